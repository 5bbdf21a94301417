/- The pure statement of FnLevelsMade: levels of ladders keep results, no ladder of an order has less than its least depth, and bricks route each order. Conditions: none beyond the law's own. -/
import Derived.Test.YtoomhlpanjebnaaGreatE
import Derived.Test.YtoomhlpanjebnaaGreatB1
import Derived.Test.YtoomhlpanjebnaaGreatB3
import Derived.Test.YtoomhlpanjebnaaGreatB2
import Derived.Test.YtoomhlpanjebnaaGreatB4
import Derived.Test.YtoomhlpanjebnaaGreatB5
namespace Go.Proofs.YtoomhlpanjebnaaGreat.Q
open Go.RowKit Go.Proofs.YtoomhlpanjebnaaGreat.B Go.Proofs.YtoomhlpanjebnaaGreatW.PrintWords Go.Proofs.YtoomhlpanjebnaaGreatW.PrintLast Go.Proofs.YtoomhlpanjebnaaGreatW.PrintMore
set_option linter.unusedVariables false
set_option linter.unusedSimpArgs false
theorem wrap_succ {i : Int} {n : Nat} (h0 : 0 ≤ i) (h : i < (n : Int)) (hn : n ≤ 9223372036854775807) : wrap64 (i + 1) = i + 1 := by
 unfold wrap64; omega
theorem wrap_in {i : Int} (h0 : -9223372036854775808 ≤ i) (h : i ≤ 9223372036854775807) : wrap64 i = i := by
 unfold wrap64; omega
theorem rd_nat (l : List Int) (j : Nat) (hj : j < l.length) : rd l (j : Int) = l[j] := by
 unfold rd; simp [hj]
theorem Ev.succ {α : Type} {g : Nat → Option α} {r : α} (h : Ev (fun k => g (k + 1)) r) : Ev g r := Ev.step (f := fun k => g (k + 1)) (fun _ => rfl) h
theorem Ev.ret {α : Type} {g : Nat → Option α} {r : α} (h : ∀ k, g k = some r) : Ev g r := ⟨0, fun k _ => h k⟩
theorem Ev.eq {α : Type} {g : Nat → Option α} {r r' : α} (h : Ev g r) (e : r = r') : Ev g r' := e ▸ h
theorem Ev.iteb {α : Type} {b : Bool} {f g : Nat → Option α} {r : α} (h1 : b = true → Ev f r) (h2 : b = false → Ev g r) : Ev (fun k => if b = true then f k else g k) r := by
 cases b with
 | true => simpa using h1 rfl
 | false => simpa using h2 rfl
theorem Ev.ite {α : Type} {p : Prop} [Decidable p] {f g : Nat → Option α} {r : α} (h1 : p → Ev f r) (h2 : ¬ p → Ev g r) : Ev (fun k => if p then f k else g k) r := by
 by_cases h : p
 ·simpa [h] using h1 h
 ·simpa [h] using h2 h
/-- A loop over the places j, j+1, .., n: its state s, what it answers from a place and a state on. -/
theorem Ev.upto {σ ρ : Type} {L : Nat → Nat → σ → Option ρ} {R : Nat → σ → ρ} {n : Nat} (hend : ∀ s, Ev (fun k => L k n s) (R n s)) (hstep : ∀ j s, j < n → (∀ s', Ev (fun k => L k (j + 1) s') (R (j + 1) s')) → Ev (fun k => L k j s) (R j s)) :
  ∀ j s, j ≤ n → Ev (fun k => L k j s) (R j s) := by
 intro j s hj
 obtain ⟨d, hd⟩ : ∃ d, d = n - j := ⟨_, rfl⟩
 induction d generalizing j s with
 | zero =>
  obtain rfl : j = n := by omega
  exact hend s
 | succ d ih => exact hstep j s (by omega) (fun s' => ih (j + 1) s' (by omega) (by omega))
theorem wrap_nat (j n : Nat) (h : j < n) (hn : n ≤ 9223372036854775807) : wrap64 ((j : Int) + 1) = ((j + 1 : Nat) : Int) := by
 unfold wrap64; omega
theorem nat_toNat (j : Nat) : ((j : Int)).toNat = j := rfl
theorem take_snoc {α : Type} (l : List α) (j : Nat) (h : j < l.length) : l.take (j + 1) = l.take j ++ [l[j]] := List.take_succ_eq_append_getElem h
theorem Ev.inv {σ ρ : Type} {L : Nat → Nat → σ → Option ρ} {Inv : Nat → σ → Prop} {r : ρ} {n : Nat} (hend : ∀ s, Inv n s → Ev (fun k => L k n s) r) (hstep : ∀ j s, j < n → Inv j s → (∀ s', Inv (j + 1) s' → Ev (fun k => L k (j + 1) s') r) → Ev (fun k => L k j s) r) :
  ∀ j s, j ≤ n → Inv j s → Ev (fun k => L k j s) r := by
 intro j s hj hi
 obtain ⟨d, hd⟩ : ∃ d, d = n - j := ⟨_, rfl⟩
 induction d generalizing j s with
 | zero =>
  obtain rfl : j = n := by omega
  exact hend s hi
 | succ d ih => exact hstep j s (by omega) hi (fun s' hs' => ih (j + 1) s' (by omega) hs' (by omega))
/-- rungs that can be exchanged -/
def ap (a b : Int) : Prop := a + 2 ≤ b ∨ b + 2 ≤ a
instance (a b : Int) : Decidable (ap a b) := inferInstanceAs (Decidable (_ ∨ _))
theorem ap_symm {a b : Int} (h : ap a b) : ap b a := Or.symm h
theorem ap_ne {a b : Int} (h : ap a b) : a ≠ b := by unfold ap at h; omega
/-- slides -/
inductive Sl : List Int → List Int → Prop
 | refl (l : List Int) : Sl l l
 | swap (a b : List Int) (x y : Int) (h : ap x y) : Sl (a ++ x :: y :: b) (a ++ y :: x :: b)
 | trans {l m n : List Int} : Sl l m → Sl m n → Sl l n
theorem Sl.symm {l m : List Int} (h : Sl l m) : Sl m l := by
 induction h with
 | refl l => exact .refl l
 | swap a b x y h => exact .swap a b y x (ap_symm h)
 | trans _ _ h1 h2 => exact .trans h2 h1
theorem Sl.app {l m : List Int} (h : Sl l m) (c d : List Int) : Sl (c ++ l ++ d) (c ++ m ++ d) := by
 induction h with
 | refl l => exact .refl _
 | swap a b x y h =>
  have := Sl.swap (c ++ a) (b ++ d) x y h
  simpa using this
 | trans _ _ h1 h2 => exact .trans h1 h2
theorem Sl.left {l m : List Int} (h : Sl l m) (c : List Int) : Sl (c ++ l) (c ++ m) := by simpa using h.app c []
theorem Sl.right {l m : List Int} (h : Sl l m) (d : List Int) : Sl (l ++ d) (m ++ d) := by simpa using h.app [] d
theorem Sl.perm {l m : List Int} (h : Sl l m) : l.Perm m := by
 induction h with
 | refl l => exact .refl _
 | swap a b x y h => exact List.Perm.append_left _ (List.Perm.swap _ _ _)
 | trans _ _ h1 h2 => exact h1.trans h2
theorem Sl.past {y : Int} : ∀ (b : List Int), (∀ o ∈ b, ap y o) → Sl (y :: b) (b ++ [y])
 | [], _ => .refl _
 | o :: b, h => .trans (Sl.swap [] b y o (h o (by simp))) (by simpa using (Sl.past b fun q hq => h q (by simp [hq])).left [o])
/-- what can come first -/
def candB : List Int → Int → Bool
 | [], _ => false
 | o :: l, v => decide (o = v) || (decide (ap o v) && candB l v)
theorem candB_app (a : List Int) (l m : List Int) (v : Int) (h : candB l v = candB m v) : candB (a ++ l) v = candB (a ++ m) v := by
 induction a with
 | nil => exact h
 | cons o a ih => simp only [List.cons_append, candB, ih]
theorem Sl.cand {l m : List Int} (h : Sl l m) (v : Int) : candB l v = candB m v := by
 induction h with
 | refl l => rfl
 | swap a b x y h =>
  refine candB_app a _ _ v ?_
  have hs := ap_symm h
  have hn := ap_ne h
  simp only [candB]
  by_cases h1 : x = v
  ·subst h1
   have : ¬ y = x := fun e => hn e.symm
   simp [this, hs]
  ·by_cases h2 : y = v
   ·subst h2
    simp [h1, h]
   ·simp only [h1, h2, decide_false, Bool.false_or]
    rw [← Bool.and_assoc, ← Bool.and_assoc, Bool.and_comm (decide (ap x v))]
 | trans _ _ h1 h2 => exact h1.trans h2
theorem Sl.out {l m : List Int} (h : Sl l m) (v : Int) : Sl (l.erase v) (m.erase v) := by
 induction h with
 | refl l => exact .refl _
 | swap a b x y h =>
  have hn := ap_ne h
  by_cases ha : v ∈ a
  ·rw [List.erase_append_left _ ha, List.erase_append_left _ ha]
   exact .swap _ _ _ _ h
  ·rw [List.erase_append_right _ ha, List.erase_append_right _ ha]
   by_cases h1 : x = v
   ·subst h1
    rw [List.erase_cons_head, List.erase_cons_tail (by simpa using fun e => hn e.symm), List.erase_cons_head]
    exact .refl _
   ·rw [List.erase_cons_tail (by simpa using h1)]
    by_cases h2 : y = v
    ·subst h2
     rw [List.erase_cons_head, List.erase_cons_head]
     exact .refl _
    ·rw [List.erase_cons_tail (by simpa using h2), List.erase_cons_tail (by simpa using h2), List.erase_cons_tail (by simpa using h1)]
     exact .swap _ _ _ _ h
 | trans _ _ h1 h2 => exact .trans h1 h2
/-- the first ladder that slides make -/
inductive Nf : List Int → List Int → Prop
 | nil : Nf [] []
 | cons {l out : List Int} (v : Int) (hc : candB l v = true) (hm : ∀ u, candB l u = true → v ≤ u) (h : Nf (l.erase v) out) : Nf l (v :: out)
theorem Nf.nil_iff {out : List Int} (h : Nf [] out) : out = [] := by
 cases h with
 | nil => rfl
 | cons v hc => cases hc
theorem Nf.same {l o : List Int} (h : Nf l o) : ∀ {m q : List Int}, Sl l m → Nf m q → o = q := by
 induction h with
 | nil =>
  intro m q hs hm
  have : m = [] := (List.perm_nil.1 hs.perm.symm)
  subst this
  exact hm.nil_iff.symm
 | @cons l out v hc hm h ih =>
  intro m q hs hq
  cases hq with
  | nil =>
   have : l = [] := List.perm_nil.1 hs.perm
   subst this
   cases hc
  | @cons _ out2 v2 hc2 hm2 h2 =>
   have h1 : v = v2 := by
    have a := hm v2 (by rw [hs.cand]; exact hc2)
    have b := hm2 v (by rw [← hs.cand]; exact hc)
    omega
   subst h1
   rw [ih (hs.out v) h2]
theorem candB_iff (l : List Int) (v : Int) : candB l v = true ↔ ∃ i : Nat, ∃ h : i < l.length, l[i] = v ∧ (∀ j : Nat, (hj : j < i) → ap (l[j]'(by omega)) v) ∧ l.erase v = l.take i ++ l.drop (i + 1) := by
 induction l with
 | nil => simp [candB]
 | cons o l ih =>
  simp only [candB, Bool.or_eq_true, decide_eq_true_eq, Bool.and_eq_true]
  constructor
  ·rintro (rfl | ⟨h1, h2⟩)
   ·exact ⟨0, by simp, rfl, fun j hj => by omega, by simp⟩
   ·obtain ⟨i, hi, e, hb, he⟩ := ih.1 h2
    refine ⟨i + 1, by simp; omega, by simpa using e, fun j hj => ?_, ?_⟩
    ·cases j with
     | zero => exact h1
     | succ j => simpa using hb j (by omega)
    ·rw [List.erase_cons_tail (by simpa using ap_ne h1), he]; simp
  ·rintro ⟨i, hi, e, hb, _⟩
   cases i with
   | zero => exact .inl (by simpa using e)
   | succ i =>
    right
    have h0 := hb 0 (by omega)
    refine ⟨by simpa using h0, ih.2 ⟨i, by simpa using hi, by simpa using e, fun j hj => by simpa using hb (j + 1) (by omega), ?_⟩⟩
    have hi' : i < l.length := by simpa using hi
    have e' : l[i] = v := by simpa using e
    -- the first occurrence
    have hn : v ∉ l.take i := by
     intro hm
     obtain ⟨j, hj, ej⟩ := List.getElem_of_mem hm
     rw [List.length_take] at hj
     rw [List.getElem_take] at ej
     have := ap_ne (hb (j + 1) (by omega))
     simp at this
     exact this ej
    have hl : l = l.take i ++ v :: l.drop (i + 1) := by
     conv => lhs; rw [← List.take_append_drop i l, List.drop_eq_getElem_cons hi', e']
    conv => lhs; rw [hl]
    rw [List.erase_append_right _ hn, List.erase_cons_head]
theorem l1In_f (a b c : Int) : spec_l1In.f a b c = some (inB a b c) := by
 unfold spec_l1In.f inB
 split
 ·rename_i h; simp [h]
 ·rename_i h; simp; omega
theorem inB_iff (a b c : Int) : inB a b c = true ↔ b ≤ a ∧ a ≤ c := by unfold inB; simp
theorem l1All_ev (l : List Int) (lo hi : Int) (hn : l.length ≤ 9223372036854775807) : Ev (fun k => spec_l1All.f k l lo hi) (l.all fun x => inB x lo hi) := by
 have key := Ev.upto (L := fun k j (_ : Unit) => spec_l1All.l0 k lo hi l (l.length : Int) (j : Int)) (R := fun j _ => (l.drop j).all fun x => inB x lo hi) (n := l.length)
  (fun _ => by
   refine Ev.succ (Ev.ret fun k => ?_)
   rw [spec_l1All.l0, if_neg (by omega)]; simp)
  (fun j _ hj ih => by
   refine Ev.succ ?_
   have h1 : (j : Int) < (l.length : Int) := by omega
   have h0 : (0 : Int) ≤ (j : Int) := by omega
   simp only [spec_l1All.l0, h1, h0, if_true, l1In_f, rd_nat l j hj, Option.bind_some, wrap_nat j _ hj hn]
   rw [List.drop_eq_getElem_cons hj, List.all_cons]
   refine Ev.iteb (fun h => ?_) (fun h => ?_)
   ·rw [h, Bool.true_and]; exact ih ()
   ·rw [h, Bool.false_and]; exact Ev.now _)
 have := key 0 () (Nat.zero_le _)
 rw [List.drop_zero] at this
 exact this
theorem laGood_ev (a : Int) (l : List Int) : Ev (fun k => spec_laGood.f k a l) (isLadderB a l) := by
 unfold spec_laGood.f isLadderB
 simp only [l1In_f, Option.bind_some]
 refine Ev.iteb (fun h => ?_) (fun h => ?_)
 ·rw [h, Bool.true_and]
  refine Ev.ite (fun h2 => ?_) (fun h2 => ?_)
  ·have h3 : decide (l.length ≤ 60) = true := by simp; omega
   rw [h3, Bool.true_and]
   refine Ev.bind (l1All_ev l 0 _ (by omega)) ?_
   refine Ev.eq (Ev.now _) ?_
   rw [List.all_eq_not_any_not]
  ·have h3 : decide (l.length ≤ 60) = false := by simp; omega
   rw [h3, Bool.false_and]; exact Ev.now _
 ·rw [h, Bool.false_and]; exact Ev.now _
theorem isLadderB_iff (a : Int) (l : List Int) : isLadderB a l = true ↔ 2 ≤ a ∧ a ≤ 8 ∧ l.length ≤ 60 ∧ ∀ r ∈ l, 0 ≤ r ∧ r ≤ a - 2 := by
 unfold isLadderB
 by_cases h : 2 ≤ a ∧ a ≤ 8
 ·have e : wrap64 (a - 2) = a - 2 := wrap_in (by omega) (by omega)
  rw [e]
  simp [inB, h.1, h.2]
 ·constructor
  ·intro h2; simp [inB] at h2; exact absurd h2.1 h
  ·intro h2; exact absurd ⟨h2.1, h2.2.1⟩ h
def putL : List Int → Int → List Int
 | [], y => [y]
 | x :: l, y => if x < y then x :: putL l y else y :: x :: l
def isoL (l : List Int) : List Int := l.foldl putL []
def Inc (l : List Int) : Prop := l.Pairwise (· < ·)
theorem putL_of {P Q : List Int} {y : Int} (hP : ∀ x ∈ P, x < y) (hQ : ∀ x ∈ Q, y < x) : putL (P ++ Q) y = P ++ y :: Q := by
 induction P with
 | nil =>
  cases Q with
  | nil => rfl
  | cons q Q => have := hQ q (by simp); rw [List.nil_append, putL, if_neg (by omega)]; rfl
 | cons p P ih =>
  rw [List.cons_append, putL, if_pos (hP p (by simp)), ih (fun x hx => hP x (by simp [hx]))]; rfl
theorem split_at {l : List Int} {y : Int} (h : Inc l) (hy : y ∉ l) : ∃ P Q, l = P ++ Q ∧ (∀ x ∈ P, x < y) ∧ ∀ x ∈ Q, y < x := by
 induction l with
 | nil => exact ⟨[], [], rfl, by simp, by simp⟩
 | cons a l ih =>
  unfold Inc at h
  rw [List.pairwise_cons] at h
  by_cases hay : a < y
  ·obtain ⟨P, Q, e, hP, hQ⟩ := ih h.2 (fun hm => hy (by simp [hm]))
   refine ⟨a :: P, Q, by rw [e]; rfl, fun x hx => ?_, hQ⟩
   rcases List.mem_cons.1 hx with rfl | hx
   ·exact hay
   ·exact hP x hx
  ·have hne : y ≠ a := fun e => hy (by simp [e])
   refine ⟨[], a :: l, rfl, by simp, fun x hx => ?_⟩
   rcases List.mem_cons.1 hx with rfl | hx
   ·omega
   ·have := h.1 x hx; omega
theorem inc_mid {P Q : List Int} {y : Int} (h : Inc (P ++ Q)) (hP : ∀ x ∈ P, x < y) (hQ : ∀ x ∈ Q, y < x) : Inc (P ++ y :: Q) := by
 unfold Inc at h ⊢
 rw [List.pairwise_append] at h ⊢
 refine ⟨h.1, List.pairwise_cons.2 ⟨hQ, h.2.1⟩, fun a ha b hb => ?_⟩
 rcases List.mem_cons.1 hb with rfl | hb
 ·exact hP a ha
 ·exact h.2.2 a ha b hb
theorem putL_inc {l : List Int} {y : Int} (h : Inc l) (hy : y ∉ l) : Inc (putL l y) := by
 obtain ⟨P, Q, rfl, hP, hQ⟩ := split_at h hy
 rw [putL_of hP hQ]
 exact inc_mid h hP hQ
theorem mem_putL (l : List Int) (y x : Int) : x ∈ putL l y ↔ x = y ∨ x ∈ l := by
 induction l with
 | nil => simp [putL]
 | cons a l ih =>
  rw [putL]
  split
  ·rw [List.mem_cons, ih, List.mem_cons]
   constructor
   ·rintro (h | h | h)
    ·exact .inr (.inl h)
    ·exact .inl h
    ·exact .inr (.inr h)
   ·rintro (h | h | h)
    ·exact .inr (.inl h)
    ·exact .inl h
    ·exact .inr (.inr h)
  ·rw [List.mem_cons]
theorem putL_length (l : List Int) (y : Int) : (putL l y).length = l.length + 1 := by
 induction l with
 | nil => rfl
 | cons a l ih => rw [putL]; split <;> simp [ih]
theorem isoL_snoc (l : List Int) (y : Int) : isoL (l ++ [y]) = putL (isoL l) y := by simp [isoL]
theorem isoL_spec : ∀ (n : Nat) (l : List Int), l.length = n → (∀ x, x ∈ isoL l ↔ x ∈ l) ∧ (isoL l).length = l.length ∧ (l.Nodup → Inc (isoL l)) := by
 intro n
 induction n with
 | zero =>
  intro l hl
  obtain rfl : l = [] := List.length_eq_zero_iff.1 hl
  exact ⟨fun x => by simp [isoL], rfl, fun _ => List.Pairwise.nil⟩
 | succ n ih =>
  intro l hl
  obtain ⟨l', y, rfl⟩ : ∃ l' y, l = l' ++ [y] := ⟨l.dropLast, l.getLast (by intro e; rw [e] at hl; cases hl), (List.dropLast_concat_getLast _).symm⟩
  have hl' : l'.length = n := by simpa using hl
  obtain ⟨i1, i2, i3⟩ := ih l' hl'
  rw [isoL_snoc]
  refine ⟨fun x => ?_, ?_, fun hnd => ?_⟩
  ·rw [mem_putL, i1, List.mem_append, List.mem_singleton]
   exact or_comm
  ·rw [putL_length, i2]; simp
  ·rw [List.nodup_append] at hnd
   refine putL_inc (i3 hnd.1) (fun hm => ?_)
   rw [i1] at hm
   exact hnd.2.2 y hm y (by simp) rfl
theorem inc_len : ∀ (l : List Int) (a : Int) (m : Nat), Inc l → (∀ x ∈ l, a ≤ x ∧ x < a + m) → l.length ≤ m := by
 intro l
 induction l with
 | nil => intro a m _ _; exact Nat.zero_le _
 | cons x l ih =>
  intro a m h hb
  unfold Inc at h
  rw [List.pairwise_cons] at h
  have hx := hb x (by simp)
  obtain ⟨m', rfl⟩ : ∃ m', m = m' + 1 := ⟨m - 1, by omega⟩
  have := ih (a + 1) m' h.2 (fun z hz => by
   have h1 := h.1 z hz
   have h2 := hb z (by simp [hz])
   omega)
  rw [List.length_cons]; omega
theorem rdn (l : List Int) (j : Nat) (hj : j < l.length) : rd l (j : Int) = l[j] := rd_nat l j hj
theorem less_f (a b : Int) : cmp_Less_int.f a b = some (decide (a < b)) := by
 unfold cmp_Less_int.f cmp_isNaN_int.f
 simp
theorem swap_two (P T : List Int) (z y : Int) : ((P ++ z :: y :: T).set (P.length + 1) z).set P.length y = P ++ y :: z :: T := by
 rw [List.set_append_right _ _ (by omega), show P.length + 1 - P.length = 1 by omega]
 rw [List.set_append_right _ _ (by omega), Nat.sub_self]
 rfl
theorem ins_inner {L : List Int} {i : Nat} (hL : L.length ≤ 12) (hi : i < L.length) (hinc : Inc (isoL (L.take i))) (hy : L[i] ∉ isoL (L.take i)) (hnext : Ev (fun k => slices_insertionSortOrdered_int.l0 k (isoL (L.take (i + 1)) ++ L.drop (i + 1)) 0 (L.length : Int) ((i + 1 : Nat) : Int)) (isoL L)) :
  ∀ (d : Nat) (P Q : List Int), P.length = d → isoL (L.take i) = P ++ Q → (∀ x ∈ Q, L[i] < x) → Ev (fun k => slices_insertionSortOrdered_int.l1 k (P ++ L[i] :: (Q ++ L.drop (i + 1))) 0 (L.length : Int) (i : Int) (d : Int)) (isoL L) := by
 have hil : (isoL (L.take i)).length = i := by rw [(isoL_spec _ _ rfl).2.1, List.length_take]; omega
 have htk : isoL (L.take (i + 1)) = putL (isoL (L.take i)) L[i] := by rw [← isoL_snoc, List.take_succ_eq_append_getElem hi]
 have done : ∀ (P Q : List Int), isoL (L.take i) = P ++ Q → (∀ x ∈ P, x < L[i]) → (∀ x ∈ Q, L[i] < x) → Ev (fun k => slices_insertionSortOrdered_int.l0 k (P ++ L[i] :: (Q ++ L.drop (i + 1))) 0 (L.length : Int) (wrap64 ((i : Int) + 1))) (isoL L) := by
  intro P Q e hP hQ
  rw [wrap_nat i 100 (by omega) (by omega)]
  have e2 : P ++ L[i] :: (Q ++ L.drop (i + 1)) = isoL (L.take (i + 1)) ++ L.drop (i + 1) := by rw [htk, e, putL_of hP hQ]; simp
  rw [e2]
  exact hnext
 intro d
 induction d with
 | zero =>
  intro P Q hP e hQ
  obtain rfl : P = [] := List.length_eq_zero_iff.1 hP
  refine Ev.succ ?_
  have g0 : ¬ (((0 : Nat) : Int) > 0) := by omega
  simp only [slices_insertionSortOrdered_int.l1, g0, if_false]
  exact done [] Q e (by simp) hQ
 | succ d ih =>
  intro P Q hP e hQ
  obtain ⟨P', z, rfl⟩ : ∃ P' z, P = P' ++ [z] := ⟨P.dropLast, P.getLast (by intro e; rw [e] at hP; cases hP), (List.dropLast_concat_getLast _).symm⟩
  have hP' : P'.length = d := by simpa using hP
  refine Ev.succ ?_
  have hdl : d ≤ 12 := by rw [e] at hil; simp at hil; omega
  generalize hTT : Q ++ L.drop (i + 1) = T
  have hlen : (P' ++ [z] ++ L[i] :: T).length = d + 1 + 1 + T.length := by simp; omega
  have g0 : (((d + 1 : Nat) : Int) > 0) := by omega
  have g1 : (0 : Int) ≤ ((d + 1 : Nat) : Int) := by omega
  have g2 : ((d + 1 : Nat) : Int) < ((P' ++ [z] ++ L[i] :: T).length : Int) := by rw [hlen]; omega
  have g3 : wrap64 (((d + 1 : Nat) : Int) - 1) = (d : Int) := by rw [wrap_in (by omega) (by omega)]; omega
  have g4 : (0 : Int) ≤ (d : Int) := by omega
  have g5 : (d : Int) < ((P' ++ [z] ++ L[i] :: T).length : Int) := by rw [hlen]; omega
  have r1 : rd (P' ++ [z] ++ L[i] :: T) ((d + 1 : Nat) : Int) = L[i] := by
   rw [rdn _ _ (by rw [hlen]; omega), List.getElem_append_right (by simp; omega)]; simp [hP']
  have r2 : rd (P' ++ [z] ++ L[i] :: T) (d : Int) = z := by
   rw [rdn _ _ (by rw [hlen]; omega), List.getElem_append_left (by simp; omega), List.getElem_append_right (by omega)]; simp
  simp only [slices_insertionSortOrdered_int.l1, g0, g1, g2, g3, g4, g5, if_true, r1, r2, less_f, Option.bind_some, decide_eq_true_eq, Int.toNat_natCast]
  refine Ev.ite (fun hlt => ?_) (fun hlt => ?_)
  ·have e3 : ((P' ++ [z] ++ L[i] :: T).set (d + 1) z).set d L[i] = P' ++ L[i] :: ((z :: Q) ++ L.drop (i + 1)) := by
    rw [List.append_assoc, List.cons_append, List.nil_append, ← hP', swap_two, ← hTT]; rfl
   rw [e3]
   refine ih P' (z :: Q) hP' (by rw [e]; simp) (fun x hx => ?_)
   rcases List.mem_cons.1 hx with rfl | hx
   ·exact hlt
   ·exact hQ x hx
  ·have hz : z ≠ L[i] := fun e2 => hy (by rw [e, ← e2]; simp)
   rw [← hTT]
   refine done (P' ++ [z]) Q e (fun x hx => ?_) hQ
   rw [e] at hinc
   unfold Inc at hinc
   rw [List.pairwise_append] at hinc
   have hp := hinc.1
   rw [List.pairwise_append] at hp
   rcases List.mem_append.1 hx with hx | hx
   ·have := hp.2.2 x hx z (by simp); omega
   ·rw [List.mem_singleton.1 hx]; omega
theorem nodup_take {L : List Int} (h : L.Nodup) (i : Nat) (hi : i < L.length) : L[i] ∉ isoL (L.take i) := by
 rw [(isoL_spec _ _ rfl).1]
 intro hm
 obtain ⟨j, hj, e⟩ := List.getElem_of_mem hm
 rw [List.length_take] at hj
 rw [List.getElem_take] at e
 exact (List.pairwise_iff_getElem.1 h) j i (by omega) hi (by omega) e
theorem sort_ev {L : List Int} (hL : L.length ≤ 12) (hnd : L.Nodup) : Ev (fun k => slices_Sort_int_int.f k L) (isoL L) := by
 unfold slices_Sort_int_int.f slices_insertionSortOrdered_int.f
 simp only [hL, if_true]
 have key : ∀ (d i : Nat), i + d = L.length → Ev (fun k => slices_insertionSortOrdered_int.l0 k (isoL (L.take i) ++ L.drop i) 0 (L.length : Int) (i : Int)) (isoL L) := by
  intro d
  induction d with
  | zero =>
   intro i hi
   refine Ev.succ (Ev.ret fun k => ?_)
   rw [slices_insertionSortOrdered_int.l0, if_neg (by omega), List.take_of_length_le (by omega), List.drop_eq_nil_of_le (by omega), List.append_nil]
  | succ d ih =>
   intro i hi
   have hlt : i < L.length := by omega
   refine Ev.succ ?_
   have g1 : (i : Int) < (L.length : Int) := by omega
   simp only [slices_insertionSortOrdered_int.l0, g1, if_true]
   have hil : (isoL (L.take i)).length = i := by rw [(isoL_spec _ _ rfl).2.1, List.length_take]; omega
   have h2 := ins_inner hL hlt ((isoL_spec _ _ rfl).2.2 (hnd.sublist (List.take_sublist _ _))) (nodup_take hnd i hlt) (ih (i + 1) (by omega)) i (isoL (L.take i)) [] hil (by simp) (by simp)
   rw [List.drop_eq_getElem_cons hlt]
   exact h2
 have e1 : wrap64 (0 + 1) = ((1 : Nat) : Int) := wrap_nat 0 10 (by omega) (by omega)
 rw [e1]
 cases L with
 | nil =>
  refine Ev.succ (Ev.ret fun k => ?_)
  rw [slices_insertionSortOrdered_int.l0, if_neg (by simp)]; rfl
 | cons a L =>
  have := key L.length 1 (by simp; omega)
  simpa [isoL, putL] using this
def top (p : List Int → Bool) (out : List (List Int)) : Nat → Nat
 | 0 => 0
 | t + 1 => if p (out.getD t []) = true then t + 1 else top p out t
def IsTop (p : List Int → Bool) (out : List (List Int)) (T t : Nat) : Prop := t ≤ T ∧ (t = 0 ∨ p (out.getD (t - 1) []) = true) ∧ ∀ j, t ≤ j → j < T → p (out.getD j []) = false
theorem top_is (p : List Int → Bool) (out : List (List Int)) : ∀ T, IsTop p out T (top p out T)
 | 0 => ⟨Nat.le_refl _, .inl rfl, fun j _ h => by omega⟩
 | T + 1 => by
  rw [top]
  cases h : p (out.getD T []) with
  | true => rw [if_pos rfl]; exact ⟨Nat.le_refl _, .inr (by simpa using h), fun j h1 h2 => by omega⟩
  | false =>
   rw [if_neg (by simp)]
   obtain ⟨h1, h2, h3⟩ := top_is p out T
   refine ⟨by omega, h2, fun j hj1 hj2 => ?_⟩
   by_cases e : j = T
   ·rw [e]; exact h
   ·exact h3 j hj1 (by omega)
theorem IsTop.uniq {p : List Int → Bool} {out : List (List Int)} {T s t : Nat} (h1 : IsTop p out T s) (h2 : IsTop p out T t) : s = t := by
 obtain ⟨a1, a2, a3⟩ := h1
 obtain ⟨b1, b2, b3⟩ := h2
 rcases Nat.lt_trichotomy s t with h | h | h
 ·rcases b2 with b2 | b2
  ·omega
  ·rw [a3 (t - 1) (by omega) (by omega)] at b2; cases b2
 ·exact h
 ·rcases a2 with a2 | a2
  ·omega
  ·rw [b3 (s - 1) (by omega) (by omega)] at a2; cases a2
theorem lvAt_top (out : List (List Int)) (y : Int) : ∀ T, lvAt out y T = top (fun l => l.any (fun o => !(apartV o y))) out T
 | 0 => rfl
 | T + 1 => by rw [lvAt, top, lvAt_top out y T]
theorem top_or (p q : List Int → Bool) (out : List (List Int)) (T : Nat) : top (fun l => p l || q l) out T = if top p out T > top q out T then top p out T else top q out T := by
 obtain ⟨a1, a2, a3⟩ := top_is p out T
 obtain ⟨b1, b2, b3⟩ := top_is q out T
 refine (top_is _ out T).uniq ?_
 split
 ·rename_i h
  refine ⟨a1, ?_, fun j h1 h2 => ?_⟩
  ·rcases a2 with a2 | a2
   ·omega
   ·exact .inr (by simp only [a2, Bool.true_or])
  ·simp only [a3 j h1 h2, b3 j (by omega) h2, Bool.or_self]
 ·rename_i h
  refine ⟨b1, ?_, fun j h1 h2 => ?_⟩
  ·rcases b2 with b2 | b2
   ·exact .inl b2
   ·exact .inr (by simp only [b2, Bool.or_true])
  ·simp only [a3 j (by omega) h2, b3 j h1 h2, Bool.or_self]
def touch (c o : Int) : Bool := decide (o = c) || decide (o + 1 = c)
theorem apart_touch {o y : Int} (h1 : 0 ≤ o ∧ o ≤ 100) (h2 : 0 ≤ y ∧ y ≤ 100) : (!(apartV o y)) = (touch y o || touch (y + 1) o) := by
 unfold apartV touch
 rw [wrap_in (by omega) (by omega), wrap_in (by omega) (by omega)]
 by_cases h : 2 ≤ o - y ∨ 2 ≤ y - o
 ·have e1 : ¬ o = y := by omega
  have e2 : ¬ o + 1 = y := by omega
  have e3 : ¬ o = y + 1 := by omega
  have e4 : ¬ o + 1 = y + 1 := by omega
  simp only [e1, e2, e3, e4, decide_false, Bool.or_self, Bool.not_eq_false', Bool.or_eq_true, decide_eq_true_eq]
  exact h
 ·have e1 : ¬ 2 ≤ o - y := by omega
  have e2 : ¬ 2 ≤ y - o := by omega
  simp only [e1, e2, decide_false, Bool.or_self, Bool.not_false]
  symm
  simp only [Bool.or_eq_true, decide_eq_true_eq]
  omega
/-- what is kept of the levels: their rungs are in range and apart -/
def LevOk (n : Nat) (out : List (List Int)) : Prop := ∀ l ∈ out, (∀ o ∈ l, 0 ≤ o ∧ o ≤ (n : Int) - 2) ∧ l.Nodup
theorem LevOk.at {n : Nat} {out : List (List Int)} (h : LevOk n out) (t : Nat) : (∀ o ∈ out.getD t [], 0 ≤ o ∧ o ≤ (n : Int) - 2) ∧ (out.getD t []).Nodup := by
 rw [List.getD_eq_getElem?_getD]
 cases hx : out[t]? with
 | none => exact ⟨by simp, List.Pairwise.nil⟩
 | some x => exact h x (List.mem_of_getElem? hx)
theorem LevOk.len {n : Nat} {l : List Int} (hn : n ≤ 8) (h : (∀ o ∈ l, 0 ≤ o ∧ o ≤ (n : Int) - 2) ∧ l.Nodup) : l.length ≤ 8 := by
 have hs := isoL_spec _ l rfl
 rw [← hs.2.1]
 exact inc_len _ 0 8 (hs.2.2 h.2) (fun x hx => by have := h.1 x ((hs.1 x).1 hx); omega)
theorem top_touch {n : Nat} {out : List (List Int)} (hn : n ≤ 8) (h : LevOk n out) {y : Int} (hy : 0 ≤ y ∧ y ≤ (n : Int) - 2) : ∀ T, lvAt out y T = top (fun l => l.any (touch y) || l.any (touch (y + 1))) out T := by
 intro T
 rw [lvAt_top]
 induction T with
 | zero => rfl
 | succ T ih =>
  rw [top, top, ih]
  have hat := (h.at T).1
  have e : (out.getD T []).any (fun o => !(apartV o y)) = ((out.getD T []).any (touch y) || (out.getD T []).any (touch (y + 1))) := by
   generalize out.getD T [] = l at hat
   induction l with
   | nil => rfl
   | cons o l ih2 =>
    rw [List.any_cons, List.any_cons, List.any_cons, ih2 (fun x hx => hat x (by simp [hx])), apart_touch (by have := hat o (by simp); omega) (by omega)]
    cases touch y o <;> cases touch (y + 1) o <;> cases l.any (touch y) <;> cases l.any (touch (y + 1)) <;> rfl
  rw [e]
theorem lvPut_getD {out : List (List Int)} {y : Int} (j : Nat) : (lvPut out y).getD j [] = if j = lvAt out y out.length then out.getD j [] ++ [y] else out.getD j [] := by
 have hle := lvAt_le out y out.length
 unfold lvPut
 generalize lvAt out y out.length = t at hle
 by_cases ht : t = out.length
 ·rw [if_pos ht]
  by_cases hj : j = t
  ·rw [if_pos hj, hj, ht]
   simp [List.getD_eq_getElem?_getD]
  ·rw [if_neg hj, List.getD_eq_getElem?_getD, List.getD_eq_getElem?_getD]
   by_cases hl : j < out.length
   ·rw [List.getElem?_append_left hl]
   ·rw [List.getElem?_eq_none (by simp; omega), List.getElem?_eq_none (by omega)]
 ·rw [if_neg ht]
  by_cases hj : j = t
  ·rw [if_pos hj, hj, List.getD_eq_getElem?_getD, List.getElem?_set_self (by omega)]; rfl
  ·rw [if_neg hj, List.getD_eq_getElem?_getD, List.getElem?_set_ne (by omega), List.getD_eq_getElem?_getD]
theorem lvPut_length (out : List (List Int)) (y : Int) : (lvPut out y).length = if lvAt out y out.length = out.length then out.length + 1 else out.length := by
 unfold lvPut
 split <;> simp
theorem lvPut_free {n : Nat} {out : List (List Int)} (hn : n ≤ 8) (h : LevOk n out) {y : Int} (hy : 0 ≤ y ∧ y ≤ (n : Int) - 2) : LevOk n (lvPut out y) := by
 have ht := (top_is (fun l => l.any (touch y) || l.any (touch (y + 1))) out out.length)
 rw [← top_touch hn h hy] at ht
 have hle := lvAt_le out y out.length
 have hX := h.at (lvAt out y out.length)
 have hnot : y ∉ out.getD (lvAt out y out.length) [] := by
  intro hm
  by_cases hl : lvAt out y out.length < out.length
  ·have h3 := ht.2.2 _ (Nat.le_refl _) hl
   rw [Bool.or_eq_false_iff] at h3
   have h4 := List.any_eq_false.1 h3.1 y hm
   simp [touch] at h4
  ·rw [List.getD_eq_getElem?_getD, List.getElem?_eq_none (by omega)] at hm
   simp at hm
 intro l hl
 obtain ⟨j, hj, rfl⟩ := List.getElem_of_mem hl
 have e := lvPut_getD (out := out) (y := y) j
 rw [List.getD_eq_getElem?_getD, List.getElem?_eq_getElem hj, Option.getD_some] at e
 rw [e]
 split
 ·rename_i hjt
  rw [hjt]
  refine ⟨fun o ho => ?_, ?_⟩
  ·rcases List.mem_append.1 ho with ho | ho
   ·exact hX.1 o ho
   ·rw [List.mem_singleton.1 ho]; exact hy
  ·rw [List.nodup_append]
   refine ⟨hX.2, by simp, fun a ha b hb => ?_⟩
   rw [List.mem_singleton.1 hb]
   exact fun e2 => hnot (e2 ▸ ha)
 ·exact h.at j
/-- the wires' free levels -/
def FreeOk (n : Nat) (out : List (List Int)) (free : List Int) : Prop := free.length = n ∧ ∀ c : Nat, c < n → free.getD c 0 = ((top (fun l => l.any (touch (c : Int))) out out.length : Nat) : Int)
theorem getD_setL (l : List Int) (i j : Nat) (x : Int) (h : i < l.length) : (l.set i x).getD j 0 = if j = i then x else l.getD j 0 := by
 rw [List.getD_eq_getElem?_getD, List.getD_eq_getElem?_getD]
 by_cases e : j = i
 ·rw [if_pos e, e, List.getElem?_set_self h]; rfl
 ·rw [if_neg e, List.getElem?_set_ne (by omega)]
theorem FreeOk.put {n : Nat} {out : List (List Int)} {free : List Int} (hn : n ≤ 8) (hlev : LevOk n out) (h : FreeOk n out free) {y : Nat} (hy : (0 : Int) ≤ (y : Int) ∧ (y : Int) ≤ (n : Int) - 2) :
  FreeOk n (lvPut out (y : Int)) ((free.set y (((lvAt out (y : Int) out.length : Nat) : Int) + 1)).set (y + 1) (((lvAt out (y : Int) out.length : Nat) : Int) + 1)) := by
 obtain ⟨h1, h2⟩ := h
 refine ⟨by simp [h1], fun c hc => ?_⟩
 rw [getD_setL _ _ _ _ (by simp [h1]; omega), getD_setL _ _ _ _ (by omega)]
 have ht := (top_is (fun l => l.any (touch (y : Int)) || l.any (touch ((y : Int) + 1))) out out.length)
 rw [← top_touch hn hlev hy] at ht
 have hle := lvAt_le out (y : Int) out.length
 have hlen := lvPut_length out (y : Int)
 have hget := fun j => lvPut_getD (out := out) (y := (y : Int)) j
 have hc0 := h2 c hc
 generalize lvPut out (y : Int) = out2 at hlen hget ⊢
 generalize lvAt out (y : Int) out.length = t at ht hle hlen hget ⊢
 have hlt2 : t < out2.length := by rw [hlen]; split <;> omega
 have hge : out.length ≤ out2.length := by rw [hlen]; split <;> omega
 have hle2 : out2.length ≤ out.length + 1 := by rw [hlen]; split <;> omega
 by_cases hcy : c = y ∨ c = y + 1
 ·have e : top (fun l => l.any (touch (c : Int))) out2 out2.length = t + 1 := by
   refine (top_is _ _ _).uniq ⟨by omega, .inr ?_, fun j h3 h4 => ?_⟩
   ·show (out2.getD (t + 1 - 1) []).any (touch (c : Int)) = true
    rw [Nat.add_sub_cancel, hget t, if_pos rfl, List.any_append]
    have : touch (c : Int) (y : Int) = true := by unfold touch; rcases hcy with rfl | rfl <;> simp
    simp [this]
   ·show (out2.getD j []).any (touch (c : Int)) = false
    rw [hget j, if_neg (by omega)]
    by_cases hl : j < out.length
    ·have h5 := ht.2.2 j (by omega) hl
     rw [Bool.or_eq_false_iff] at h5
     rcases hcy with rfl | rfl
     ·exact h5.1
     ·exact h5.2
    ·rw [List.getD_eq_getElem?_getD, List.getElem?_eq_none (by omega)]; rfl
  rw [e]
  rcases hcy with rfl | rfl
  ·rw [if_neg (by omega), if_pos rfl]; rfl
  ·rw [if_pos rfl]; rfl
 ·rw [if_neg (by omega), if_neg (by omega), hc0]
  congr 1
  have ho := top_is (fun l => l.any (touch (c : Int))) out out.length
  symm
  refine (top_is _ _ _).uniq ?_
  have hny : touch (c : Int) (y : Int) = false := by unfold touch; simp; omega
  have hsame : ∀ j, (out2.getD j []).any (touch (c : Int)) = (out.getD j []).any (touch (c : Int)) := by
   intro j
   rw [hget j]
   split
   ·rw [List.any_append]; simp [hny]
   ·rfl
  refine ⟨by have := ho.1; omega, ?_, fun j h3 h4 => ?_⟩
  ·rcases ho.2.1 with h5 | h5
   ·exact .inl h5
   ·exact .inr ((hsame _).trans h5)
  ·show (out2.getD j []).any (touch (c : Int)) = false
   rw [hsame]
   by_cases hl : j < out.length
   ·exact ho.2.2 j h3 hl
   ·rw [List.getD_eq_getElem?_getD, List.getElem?_eq_none (by omega)]; rfl
theorem lvPuts_ok {n : Nat} (hn : n ≤ 8) : ∀ (xs : List Int) (out : List (List Int)), (∀ x ∈ xs, 0 ≤ x ∧ x ≤ (n : Int) - 2) → LevOk n out → LevOk n (lvPuts out xs) ∧ (lvPuts out xs).length ≤ out.length + xs.length := by
 intro xs
 induction xs with
 | nil => intro out _ h; exact ⟨h, Nat.le_refl _⟩
 | cons x xs ih =>
  intro out hx h
  obtain ⟨h1, h2⟩ := ih (lvPut out x) (fun z hz => hx z (by simp [hz])) (lvPut_free hn h (hx x (by simp)))
  refine ⟨h1, ?_⟩
  have h3 := lvPut_length out x
  have h4 : (lvPut out x).length ≤ out.length + 1 := by rw [h3]; split <;> omega
  rw [show lvPuts out (x :: xs) = lvPuts (lvPut out x) xs from rfl, List.length_cons]
  omega
theorem sortAll_ev {n : Nat} (hn : n ≤ 8) : ∀ (out : List (List Int)), LevOk n out → Ev (fun k => sortAll k out) (out.map isoL) := by
 intro out
 induction out with
 | nil => intro _; exact Ev.now _
 | cons x out ih =>
  intro h
  have hx := h x (by simp)
  have hl := LevOk.len hn hx
  refine Ev.bind (sort_ev (by omega) hx.2) ?_
  exact Ev.bind (ih (fun z hz => h z (by simp [hz]))) (Ev.now _)
def lva (n1 : Nat) : Nat → Nat → List (List Int)
 | 0, _ => [[]]
 | f + 1, fr => [] :: (List.range' fr (n1 - fr)).flatMap fun q => (lva n1 f (q + 2)).map ((q : Int) :: ·)
theorem lva_small : ∀ n1, n1 ≤ 7 → ∀ f, f ≤ 4 → ∀ fr, fr ≤ 9 → (lva n1 f fr).length ≤ 100 ∧ (lva n1 f fr).all (fun x => x.length ≤ 8) = true := by decide +kernel
theorem rd_rows (l : List (List Int)) (i : Nat) (hi : i < l.length) : rd_L2 l (i : Int) = l[i] := by
 unfold rd_L2; simp [hi]
theorem lvAll_l1 (n : Int) (q : Nat) (xs : List (List Int)) (hx : xs.length ≤ 100) (hs : ∀ x ∈ xs, x.length ≤ 8) (R : List (List Int)) (d : Nat) : ∀ (j : Nat) (acc : List (List Int)), j + d = xs.length → acc.length + d ≤ 100000 →
  Ev (fun k => spec_lvAll.l0 k n (acc ++ (xs.drop j).map ((q : Int) :: ·)) (wrap64 ((q : Int) + 1))) R → Ev (fun k => spec_lvAll.l1 k n acc (q : Int) xs (xs.length : Int) (j : Int)) R := by
 induction d with
 | zero =>
  intro j acc hj _ h
  refine Ev.succ ?_
  have g1 : ¬ (j : Int) < (xs.length : Int) := by omega
  simp only [spec_lvAll.l1, g1, if_false]
  rw [List.drop_eq_nil_of_le (by omega)] at h
  simpa using h
 | succ d ih =>
  intro j acc hj hl h
  refine Ev.succ ?_
  have hj2 : j < xs.length := by omega
  have g1 : (j : Int) < (xs.length : Int) := by omega
  have g2 : (0 : Int) ≤ (j : Int) := by omega
  have g3 : [(q : Int)].length + xs[j].length < 17592186044416 := by have := hs xs[j] (List.getElem_mem hj2); simp; omega
  have g4 : acc.length < 5864062014805 := by omega
  simp only [spec_lvAll.l1, g1, g2, if_true, Option.bind_some, rd_rows xs j hj2, wrap_nat j xs.length hj2 (by omega)]
  simp only [g3, g4, if_true]
  refine ih (j + 1) _ (by omega) (by simp; omega) ?_
  rw [List.drop_eq_getElem_cons hj2, List.map_cons] at h
  rw [List.append_assoc]
  exact h
theorem lvAll_ev (n : Nat) (hn1 : 2 ≤ n) (hn : n ≤ 8) (f : Nat) : ∀ (fr : Nat), f ≤ 4 → fr ≤ 9 → n - 1 ≤ fr + 2 * f → Ev (fun k => spec_lvAll.f k (n : Int) (fr : Int)) (lva (n - 1) f fr) := by
 have gn : wrap64 ((n : Int) - 1) = ((n - 1 : Nat) : Int) := by unfold wrap64; omega
 induction f with
 | zero =>
  intro fr _ _ h
  refine Ev.succ ?_
  simp only [spec_lvAll.f]
  refine Ev.succ (Ev.ret fun k => ?_)
  rw [spec_lvAll.l0, gn, if_neg (by omega)]
  rfl
 | succ f ih =>
  intro fr hf hfr h
  refine Ev.succ ?_
  simp only [spec_lvAll.f]
  have key : ∀ (d r : Nat) (acc : List (List Int)), r + d = n - 1 → fr ≤ r → acc.length + 100 * d ≤ 10000 →
    Ev (fun k => spec_lvAll.l0 k (n : Int) acc (r : Int)) (acc ++ (List.range' r d).flatMap fun q => (lva (n - 1) f (q + 2)).map ((q : Int) :: ·)) := by
   intro d
   induction d with
   | zero =>
    intro r acc hr _ _
    refine Ev.succ (Ev.ret fun k => ?_)
    rw [spec_lvAll.l0, gn, if_neg (by omega)]; simp
   | succ d ihd =>
    intro r acc hr hle hl
    refine Ev.succ ?_
    have g1 : (r : Int) < ((n - 1 : Nat) : Int) := by omega
    have g2 : wrap64 ((r : Int) + 2) = ((r + 2 : Nat) : Int) := by unfold wrap64; omega
    simp only [spec_lvAll.l0, gn, g1, if_true, g2]
    refine Ev.bind (ih (r + 2) (by omega) (by omega) (by omega)) ?_
    have sm := lva_small (n - 1) (by omega) f (by omega) (r + 2) (by omega)
    refine lvAll_l1 (n : Int) r _ sm.1 (fun x hx => by simpa using List.all_eq_true.1 sm.2 x hx) _ (lva (n - 1) f (r + 2)).length 0 acc (by omega) (by omega) ?_
    rw [wrap_nat r n (by omega) (by omega), List.drop_zero]
    refine Ev.eq (ihd (r + 1) (acc ++ (lva (n - 1) f (r + 2)).map ((r : Int) :: ·)) (by omega) (by omega) (by rw [List.length_append, List.length_map]; omega)) ?_
    simp [List.range'_succ]
  by_cases c : fr ≤ n - 1
  ·refine Ev.eq (key (n - 1 - fr) fr [[]] (by omega) (by omega) (by simp; omega)) ?_
   simp [lva]
  ·refine Ev.succ (Ev.ret fun k => ?_)
   rw [spec_lvAll.l0, gn, if_neg (by omega)]
   have e : n - 1 - fr = 0 := by omega
   simp [lva, e]
theorem lvl_lva (n1 : Nat) (f : Nat) : ∀ (fr : Nat) (done : List Int), lvl n1 f fr done = (lva n1 f fr).map (done ++ ·) := by
 induction f with
 | zero => intro fr done; simp [lvl, lva]
 | succ f ih =>
  intro fr done
  simp only [lvl, lva, List.map_cons, List.append_nil, List.map_flatMap, ih, List.map_map]
  congr 1
  refine congrArg (fun g => List.flatMap g _) ?_
  funext q
  refine List.map_congr_left fun x _ => ?_
  simp
theorem lva_same : ∀ n1, n1 ≤ 7 → lva n1 8 0 = lva n1 4 0 := by decide +kernel
theorem AllLevels_list (n : Nat) (hn : n ≤ 8) : lvl (n - 1) 8 0 [] = lva (n - 1) 4 0 := by
 rw [lvl_lva, ← lva_same (n - 1) (by omega)]; simp
theorem apV_iff {a b : Int} (ha : 0 ≤ a ∧ a ≤ 1000) (hb : 0 ≤ b ∧ b ≤ 1000) : apartV a b = true ↔ ap a b := by
 unfold apartV ap wrap64
 rw [Bool.or_eq_true, decide_eq_true_eq, decide_eq_true_eq]
 omega
/-- where a rung goes -/
theorem lvAt_where (out : List (List Int)) (y : Int) : ∀ T, lvAt out y T ≤ T ∧ (lvAt out y T = 0 ∨ ∃ o, o ∈ out.getD (lvAt out y T - 1) [] ∧ apartV o y = false) ∧ ∀ j, lvAt out y T ≤ j → j < T → ∀ o, o ∈ out.getD j [] → apartV o y = true
 | 0 => ⟨Nat.le_refl _, .inl rfl, fun j _ h => by omega⟩
 | T + 1 => by
  obtain ⟨h1, h2, h3⟩ := lvAt_where out y T
  rw [lvAt]
  split
  ·rename_i h
   obtain ⟨o, ho, hb⟩ := List.any_eq_true.1 h
   exact ⟨Nat.le_refl _, .inr ⟨o, by simpa using ho, by simpa using hb⟩, fun j hj1 hj2 => by omega⟩
  ·rename_i h
   refine ⟨by omega, h2, fun j hj1 hj2 o ho => ?_⟩
   by_cases e : j = T
   ·subst e
    cases hb : apartV o y with
    | true => rfl
    | false => exact absurd (List.any_eq_true.2 ⟨o, ho, by simp [hb]⟩) h
   ·exact h3 j hj1 (by omega) o ho
def Few (l : List Int) : Prop := ∀ o, o ∈ l → 0 ≤ o ∧ o ≤ 1000
structure LevS (out : List (List Int)) : Prop where
 few : ∀ j, Few (out.getD j [])
 gap : ∀ j, (out.getD j []).Pairwise ap
 full : ∀ j, j < out.length → out.getD j [] ≠ []
 near : ∀ j y, y ∈ out.getD (j + 1) [] → ∃ o, o ∈ out.getD j [] ∧ ¬ ap o y
theorem getD_out {out : List (List Int)} {j : Nat} (h : out.length ≤ j) : out.getD j [] = [] := by
 rw [List.getD_eq_getElem?_getD, List.getElem?_eq_none h]; rfl
theorem LevS.put {out : List (List Int)} (h : LevS out) {y : Int} (hy : 0 ≤ y ∧ y ≤ 1000) : LevS (lvPut out y) ∧ Sl (lvPut out y).flatten (out.flatten ++ [y]) := by
 obtain ⟨w1, w2, w3⟩ := lvAt_where out y out.length
 have hfree : ∀ j, lvAt out y out.length ≤ j → ∀ o, o ∈ out.getD j [] → ap o y := by
  intro j hj o ho
  by_cases hl : j < out.length
  ·exact (apV_iff (h.few j o ho) hy).1 (w3 j hj hl o ho)
  ·rw [getD_out (by omega)] at ho; cases ho
 refine ⟨⟨fun j => ?_, fun j => ?_, fun j hj => ?_, fun j z hz => ?_⟩, ?_⟩
 ·rw [lvPut_getD]
  split
  ·intro o ho
   rcases List.mem_append.1 ho with ho | ho
   ·exact h.few j o ho
   ·rw [List.mem_singleton.1 ho]; exact hy
  ·exact h.few j
 ·rw [lvPut_getD]
  split
  ·rename_i e
   rw [List.pairwise_append]
   refine ⟨h.gap j, by simp, fun a ha b hb => ?_⟩
   rw [List.mem_singleton.1 hb]
   exact hfree j (by omega) a ha
  ·exact h.gap j
 ·rw [lvPut_getD]
  split
  ·simp
  ·rename_i e
   refine h.full j ?_
   rw [lvPut_length] at hj
   split at hj <;> omega
 ·rw [lvPut_getD] at hz
  have keep : ∀ o, o ∈ out.getD j [] → o ∈ (lvPut out y).getD j [] := by
   intro o ho
   rw [lvPut_getD]
   split
   ·exact List.mem_append_left _ ho
   ·exact ho
  have old : ∀ z, z ∈ out.getD (j + 1) [] → ∃ o, o ∈ (lvPut out y).getD j [] ∧ ¬ ap o z := fun z hz => by
   obtain ⟨o, ho, hn⟩ := h.near j z hz
   exact ⟨o, keep o ho, hn⟩
  split at hz
  ·rename_i e
   rcases List.mem_append.1 hz with hz | hz
   ·exact old z hz
   ·obtain rfl := List.mem_singleton.1 hz
    rcases w2 with w2 | ⟨o, ho, hb⟩
    ·omega
    ·rw [← e] at ho
     refine ⟨o, keep o (by simpa using ho), fun ha => ?_⟩
     rw [(apV_iff (h.few _ o ho) hy).2 ha] at hb
     cases hb
  ·exact old z hz
 ·unfold lvPut
  split
  ·rw [List.flatten_append]
   simpa using Sl.refl _
  ·rename_i e
   have ht : lvAt out y out.length < out.length := by omega
   generalize lvAt out y out.length = t at ht hfree
   rw [List.set_eq_take_append_cons_drop, if_pos ht]
   have e1 : out = out.take t ++ out.getD t [] :: out.drop (t + 1) := by
    conv => lhs; rw [← List.take_append_drop t out, List.drop_eq_getElem_cons ht]
    rw [List.getD_eq_getElem?_getD, List.getElem?_eq_getElem ht]; rfl
   have e2 : out.flatten = (out.take t).flatten ++ out.getD t [] ++ (out.drop (t + 1)).flatten := by
    conv => lhs; rw [e1]
    simp
   rw [e2]
   simp only [List.flatten_append, List.flatten_cons, List.append_assoc]
   refine Sl.left (Sl.left ?_ _) _
   refine Sl.past _ fun o ho => ap_symm ?_
   obtain ⟨l, hl, ho⟩ := List.mem_flatten.1 ho
   obtain ⟨i, hi, rfl⟩ := List.getElem_of_mem hl
   rw [List.getElem_drop] at ho
   rw [List.length_drop] at hi
   refine hfree (t + 1 + i) (by omega) o ?_
   rw [List.getD_eq_getElem?_getD, List.getElem?_eq_getElem (by omega)]
   exact ho
theorem LevS.puts : ∀ (xs : List Int) (out : List (List Int)), LevS out → (∀ y ∈ xs, 0 ≤ y ∧ y ≤ 1000) → LevS (lvPuts out xs) ∧ Sl (lvPuts out xs).flatten (out.flatten ++ xs)
 | [], out, h, _ => ⟨h, by rw [List.append_nil]; exact .refl _⟩
 | y :: xs, out, h, hx => by
  obtain ⟨h1, s1⟩ := h.put (hx y (by simp))
  obtain ⟨h2, s2⟩ := LevS.puts xs _ h1 (fun z hz => hx z (by simp [hz]))
  refine ⟨h2, .trans s2 ?_⟩
  have := s1.right xs
  simpa using this
theorem putL_sl : ∀ (p : List Int) (y : Int), (∀ o, o ∈ p → ap o y) → Sl (putL p y) (p ++ [y])
 | [], y, _ => .refl _
 | x :: l, y, h => by
  rw [putL]
  split
  ·exact (putL_sl l y fun o ho => h o (by simp [ho])).left [x]
  ·exact Sl.past (x :: l) fun o ho => ap_symm (h o ho)
theorem isoL_sl : ∀ (n : Nat) (l : List Int), l.length = n → l.Pairwise ap → Sl (isoL l) l
 | 0, l, hl, _ => by rw [List.length_eq_zero_iff.1 hl]; exact .refl _
 | n + 1, l, hl, h => by
  obtain ⟨p, y, rfl⟩ : ∃ p y, l = p ++ [y] := ⟨l.dropLast, l.getLast (by intro e; rw [e] at hl; cases hl), (List.dropLast_concat_getLast _).symm⟩
  rw [List.pairwise_append] at h
  have hp : p.length = n := by simpa using hl
  have s1 := isoL_sl n p hp h.1
  rw [isoL_snoc]
  refine .trans (putL_sl _ y fun o ho => ?_) (s1.right [y])
  exact h.2.2 o (((isoL_spec _ p rfl).1 o).1 ho) y (by simp)
theorem isoL_rows : ∀ (out : List (List Int)), (∀ l, l ∈ out → l.Pairwise ap) → Sl (out.map isoL).flatten out.flatten
 | [], _ => .refl _
 | l :: out, h => by
  rw [List.map_cons, List.flatten_cons, List.flatten_cons]
  exact .trans ((isoL_sl _ l rfl (h l (by simp))).right _) ((isoL_rows out fun x hx => h x (by simp [hx])).left _)
/-- a sorted level -/
def Lv (n : Nat) (l : List Int) : Prop := l.Pairwise (fun a b => a + 2 ≤ b) ∧ ∀ o, o ∈ l → 0 ≤ o ∧ o ≤ (n : Int) - 2
theorem isoL_gap {l : List Int} (h : l.Pairwise ap) : (isoL l).Pairwise (fun a b => a + 2 ≤ b) := by
 have h1 : l.Nodup := h.imp fun h => ap_ne h
 have h2 := (isoL_spec _ l rfl).2.2 h1
 have h3 : (isoL l).Pairwise ap := (isoL_sl _ l rfl h).perm.symm.pairwise h (fun h => ap_symm h)
 unfold Inc at h2
 rw [List.pairwise_iff_getElem] at h2 h3 ⊢
 intro i j hi hj hij
 have a := h2 i j hi hj hij
 have b := h3 i j hi hj hij
 unfold ap at b
 omega
structure Made (n : Nat) (l : List Int) (L : List (List Int)) : Prop where
 sl : Sl L.flatten l
 lev : ∀ x, x ∈ L → Lv n x ∧ x ≠ []
 near : ∀ i, (h : i + 1 < L.length) → ∀ y, y ∈ L[i + 1] → ∃ o, o ∈ L[i] ∧ ¬ ap o y
theorem made_levels {n : Nat} (hn : n ≤ 1000) {l : List Int} (h : ∀ r, r ∈ l → 0 ≤ r ∧ r ≤ (n : Int) - 2) : Made n l ((lvPuts [] l).map isoL) := by
 have h0 : LevS [] := ⟨fun j o ho => by simp at ho, fun j => by simp, fun j hj => by simp at hj, fun j y hy => by simp at hy⟩
 obtain ⟨h1, s1⟩ := LevS.puts l [] h0 (fun y hy => by have := h y hy; omega)
 have hg : ∀ x, x ∈ lvPuts [] l → x.Pairwise ap ∧ x ≠ [] := by
  intro x hx
  obtain ⟨i, hi, rfl⟩ := List.getElem_of_mem hx
  have a := h1.gap i
  have b := h1.full i hi
  rw [List.getD_eq_getElem?_getD, List.getElem?_eq_getElem hi] at a b
  exact ⟨a, b⟩
 have hs := (isoL_rows (lvPuts [] l) fun x hx => (hg x hx).1)
 refine ⟨.trans hs s1, fun x hx => ?_, fun i hi y hy => ?_⟩
 ·obtain ⟨q, hq, rfl⟩ := List.mem_map.1 hx
  obtain ⟨g1, g2⟩ := hg q hq
  refine ⟨⟨isoL_gap g1, fun o ho => ?_⟩, fun e => ?_⟩
  ·rw [(isoL_spec _ q rfl).1] at ho
   have : o ∈ (lvPuts [] l).flatten := List.mem_flatten.2 ⟨q, hq, ho⟩
   have := s1.perm.mem_iff.1 this
   exact h o (by simpa using this)
  ·have := (isoL_spec _ q rfl).2.1
   rw [e] at this
   exact g2 (List.length_eq_zero_iff.1 this.symm)
 ·rw [List.length_map] at hi
  rw [List.getElem_map, (isoL_spec _ _ rfl).1] at hy
  obtain ⟨o, ho, hn⟩ := h1.near i y (by rw [List.getD_eq_getElem?_getD, List.getElem?_eq_getElem hi]; exact hy)
  rw [List.getD_eq_getElem?_getD, List.getElem?_eq_getElem (by omega)] at ho
  refine ⟨o, ?_, hn⟩
  rw [List.getElem_map, (isoL_spec _ _ rfl).1]
  exact ho
/-- the list of all levels is whole -/
theorem lva_all (n : Nat) : ∀ (f : Nat) (x : List Int) (fr : Nat), x.Pairwise (fun a b => a + 2 ≤ b) → (∀ o, o ∈ x → (fr : Int) ≤ o ∧ o + 1 < (n : Int)) → x.length ≤ f → x ∈ lva (n - 1) f fr
 | 0, x, fr, _, _, hl => by rw [List.length_eq_zero_iff.1 (Nat.le_zero.1 hl)]; simp [lva]
 | f + 1, [], fr, _, _, _ => by simp [lva]
 | f + 1, r :: x, fr, hp, hb, hl => by
  rw [List.pairwise_cons] at hp
  have hr := hb r (by simp)
  obtain ⟨q, rfl⟩ : ∃ q : Nat, r = q := ⟨r.toNat, by omega⟩
  refine List.mem_cons_of_mem _ (List.mem_flatMap.2 ⟨q, ?_, List.mem_map.2 ⟨x, ?_, rfl⟩⟩)
  ·rw [List.mem_range'_1]; omega
  ·refine lva_all n f x (q + 2) hp.2 (fun o ho => ?_) (by simpa using hl)
   have := hp.1 o ho
   have := hb o (by simp [ho])
   omega
/-- the call comes to an end with something that meets P -/
def Got {α : Type} (g : Nat → Option α) (P : α → Prop) : Prop := ∃ r, Ev g r ∧ P r
theorem Got.now {α : Type} {P : α → Prop} (r : α) (h : P r) : Got (fun _ => some r) P := ⟨r, Ev.now r, h⟩
theorem Got.bind {α β : Type} {g : Nat → Option α} {f : Nat → α → Option β} {P : α → Prop} {Q : β → Prop} (h : Got g P) (k : ∀ a, P a → Got (fun n => f n a) Q) : Got (fun n => (g n).bind (f n)) Q := by
 obtain ⟨a, h, ha⟩ := h
 obtain ⟨r, k, hr⟩ := k a ha
 exact ⟨r, Ev.bind h k, hr⟩
theorem Got.mono {α : Type} {g : Nat → Option α} {P Q : α → Prop} (h : Got g P) (k : ∀ a, P a → Q a) : Got g Q := by
 obtain ⟨a, h, ha⟩ := h
 exact ⟨a, h, k a ha⟩
theorem Got.succ {α : Type} {g : Nat → Option α} {P : α → Prop} (h : Got (fun k => g (k + 1)) P) : Got g P := by
 obtain ⟨a, h, ha⟩ := h
 exact ⟨a, Ev.succ h, ha⟩
theorem Got.ite {α : Type} {p : Prop} [Decidable p] {f g : Nat → Option α} {P : α → Prop} (h1 : p → Got f P) (h2 : ¬ p → Got g P) : Got (fun k => if p then f k else g k) P := by
 by_cases h : p
 ·simpa [h] using h1 h
 ·simpa [h] using h2 h
theorem Got.iteb {α : Type} {b : Bool} {f g : Nat → Option α} {P : α → Prop} (h1 : b = true → Got f P) (h2 : b = false → Got g P) : Got (fun k => if b = true then f k else g k) P := by
 cases b with
 | true => simpa using h1 rfl
 | false => simpa using h2 rfl
theorem Got.ifp {α : Type} {p : Prop} [Decidable p] {f g : Nat → Option α} {P : α → Prop} (h : p) (h1 : Got f P) : Got (fun k => if p then f k else g k) P := by simpa [h] using h1
theorem Got.ifn {α : Type} {p : Prop} [Decidable p] {f g : Nat → Option α} {P : α → Prop} (h : ¬ p) (h1 : Got g P) : Got (fun k => if p then f k else g k) P := by simpa [h] using h1
theorem Got.one {α : Type} {o : Option α} {P : α → Prop} (h : ∃ r, o = some r ∧ P r) : Got (fun _ => o) P := by
 obtain ⟨r, h, hr⟩ := h
 exact ⟨r, ⟨0, fun _ _ => h⟩, hr⟩
theorem Got.ev {α : Type} {g : Nat → Option α} {r : α} {P : α → Prop} (h : Ev g r) (hr : P r) : Got g P := ⟨r, h, hr⟩
/-- a text of bytes -/
def Bytes (c : List Int) : Prop := c.length ≤ 1048576 ∧ ∀ x ∈ c, 0 ≤ x ∧ x ≤ 255
/-- how far a reader has come: at most so far -/
def Far (a : Int) (n : Nat) : Prop := 0 ≤ a ∧ a ≤ (n : Int)
theorem Far.zero : Far 0 0 := ⟨Int.le_refl _, Int.le_refl _⟩
theorem Far.le {a : Int} {n m : Nat} (h : Far a n) (hm : n ≤ m) : Far a m := ⟨h.1, by have := h.2; omega⟩
theorem and255 (x : Int) (h0 : 0 ≤ x) (h1 : x < 2 ^ 24) : Go.bits .and .u64 x 255 = x % 256 :=
 bits_mask .u64 24 (by decide) (fun n h0 h1 => by simp [IntKind.wrap, IntKind.bits, IntKind.signed]; omega) 8 (by decide) x h0 h1
theorem next_val (y : Int) : 0 ≤ wrap64 (Go.bits .and .u64 ((IntKind.u64.wrap y) / 1099511627776) 255) ∧ wrap64 (Go.bits .and .u64 ((IntKind.u64.wrap y) / 1099511627776) 255) ≤ 255 := by
 have e : IntKind.u64.wrap y = y % 18446744073709551616 := by simp [IntKind.wrap, IntKind.bits, IntKind.signed]
 rw [e, and255 _ (by omega) (by omega), wrap_in (by omega) (by omega)]
 omega
theorem next_got {c : List Int} {a s : Int} {n : Nat} (hc : Bytes c) (ha : Far a n) (hn : n ≤ 1000000000) : ∃ r, spec_l1Cur_next.f c a s = some r ∧ 0 ≤ r.1 ∧ r.1 ≤ 255 ∧ Far r.2.1 (n + 1) := by
 have hw : wrap64 (a + 1) = a + 1 := wrap_in (by have := ha.1; omega) (by have := ha.2; omega)
 have hf : Far (a + 1) (n + 1) := ⟨by have := ha.1; omega, by have := ha.2; omega⟩
 unfold spec_l1Cur_next.f
 rw [hw]
 by_cases h1 : a < (c.length : Int)
 ·rw [if_pos h1, if_pos ha.1]
  obtain ⟨j, rfl⟩ : ∃ j : Nat, a = j := ⟨a.toNat, by have := ha.1; omega⟩
  have hj : j < c.length := by omega
  have hb := hc.2 c[j] (List.getElem_mem hj)
  have hr : rd c (j : Int) = c[j] := rd_nat c j hj
  rw [hr, if_pos (by omega)]
  exact ⟨_, rfl, by rw [wrap_in (by omega) (by omega)]; exact hb.1, by rw [wrap_in (by omega) (by omega)]; exact hb.2, hf⟩
 ·rw [if_neg h1, if_neg (by omega)]
  exact ⟨_, rfl, (next_val _).1, (next_val _).2, hf⟩
theorem pick_got {c : List Int} {a s : Int} {n : Nat} (hc : Bytes c) (ha : Far a n) (hn : n ≤ 1000000000) (m : Int) (hm : m ≤ 200) : ∃ r, spec_l1Cur_pick.f c a s m = some r ∧ 0 ≤ r.1 ∧ (m ≤ 1 → r.1 = 0) ∧ (1 ≤ m → r.1 < m) ∧ Far r.2.1 (n + 1) := by
 unfold spec_l1Cur_pick.f
 by_cases h : m ≤ 1
 ·rw [if_pos h]; exact ⟨_, rfl, Int.le_refl _, fun _ => rfl, fun h => by simp only; omega, ha.le (by omega)⟩
 ·rw [if_neg h]
  obtain ⟨r, e, h0, h1, hf⟩ := next_got (s := s) hc ha hn
  rw [e, Option.bind_some, if_neg (by omega), if_neg (by omega)]
  exact ⟨_, rfl, Int.tmod_nonneg _ h0, fun h' => absurd h' h, fun _ => Int.tmod_lt_of_pos _ (by omega), hf⟩
theorem one_got {c : List Int} {a s : Int} {n : Nat} (hc : Bytes c) (ha : Far a n) (hn : n ≤ 1000000000) (m : Int) (hm : m ≤ 200) : ∃ r, spec_l1Cur_one.f c a s m = some r ∧ Far r.2.1 (n + 1) := by
 obtain ⟨r, e, _, _, _, hf⟩ := pick_got (s := s) hc ha hn m hm
 unfold spec_l1Cur_one.f
 rw [e]
 exact ⟨_, rfl, hf⟩
theorem among_got {c : List Int} {a s : Int} {n : Nat} (hc : Bytes c) (ha : Far a n) (hn : n ≤ 1000000000) (l : List Int) (hl : 1 ≤ l.length ∧ l.length ≤ 200) : ∃ r, spec_l1Cur_among.f c a s l = some r ∧ r.1 ∈ l ∧ Far r.2.1 (n + 1) := by
 obtain ⟨r, e, h0, _, h2, hf⟩ := pick_got (s := s) hc ha hn (l.length : Int) (by omega)
 have h3 := h2 (by omega)
 unfold spec_l1Cur_among.f
 rw [e, Option.bind_some, if_pos h0, if_pos h3]
 obtain ⟨j, hj⟩ : ∃ j : Nat, r.1 = j := ⟨r.1.toNat, by omega⟩
 have hj' : j < l.length := by omega
 refine ⟨_, rfl, ?_, hf⟩
 show rd l r.1 ∈ l
 rw [hj, rd_nat l j hj']
 exact List.getElem_mem hj'
/-- the numbers at a place and the next one exchanged -/
def swp (p : List Int) (r : Int) : List Int := (p.set r.toNat (rd p (r + 1))).set (r + 1).toNat (rd p r)
def topL (p : List Int) (l : List Int) : List Int := l.foldl swp p
theorem swp_length (p : List Int) (r : Int) : (swp p r).length = p.length := by simp [swp]
theorem topL_length (l : List Int) : ∀ p, (topL p l).length = p.length := by
 induction l with
 | nil => intro p; rfl
 | cons r l ih => intro p; show (topL (swp p r) l).length = _; rw [ih, swp_length]
def okRungs (n : Nat) (l : List Int) : Prop := ∀ r ∈ l, 0 ≤ r ∧ r + 1 < (n : Int)
theorem topL_take (p l : List Int) (j : Nat) (h : j < l.length) : topL p (l.take (j + 1)) = swp (topL p (l.take j)) l[j] := by
 rw [take_snoc l j h]; unfold topL; rw [List.foldl_append]; rfl
def orderAt (p : List Int) (i : Nat) : Bool := inB (rd p i) 0 (wrap64 ((p.length : Int) - 1)) && !(decide (rd p i ∈ p.take i))
def orderB (p : List Int) : Bool := inB (p.length : Int) 1 8 && (List.range' 0 p.length).all (orderAt p)
theorem orderB_iff (p : List Int) : orderB p = true ↔ (1 ≤ p.length ∧ p.length ≤ 8) ∧ (∀ i, (h : i < p.length) → 0 ≤ p[i] ∧ p[i] < p.length ∧ ¬ p[i] ∈ p.take i) := by
 unfold orderB
 rw [Bool.and_eq_true]
 constructor
 ·rintro ⟨h1, h2⟩
  have h1' : 1 ≤ p.length ∧ p.length ≤ 8 := by unfold inB at h1; simp at h1; omega
  refine ⟨h1', fun i hi => ?_⟩
  have := List.all_eq_true.1 h2 i (by simp [hi])
  have e : wrap64 ((p.length : Int) - 1) = (p.length : Int) - 1 := wrap_in (by omega) (by omega)
  unfold orderAt inB at this
  rw [e, rd_nat p i hi] at this
  simp at this
  exact ⟨by omega, by omega, this.2⟩
 ·rintro ⟨h1, h2⟩
  refine ⟨by unfold inB; simp; omega, List.all_eq_true.2 fun i hi => ?_⟩
  have hi' : i < p.length := by simpa using hi
  obtain ⟨a, b, c⟩ := h2 i hi'
  have e : wrap64 ((p.length : Int) - 1) = (p.length : Int) - 1 := wrap_in (by omega) (by omega)
  unfold orderAt inB
  rw [e, rd_nat p i hi']
  simp
  exact ⟨by omega, c⟩
theorem order_mem {p : List Int} (h : orderB p = true) {x : Int} (hx : x ∈ p) : 0 ≤ x ∧ x < p.length := by
 obtain ⟨i, hi, rfl⟩ := List.getElem_of_mem hx
 have := ((orderB_iff p).1 h).2 i hi
 exact ⟨this.1, this.2.1⟩
def isOrd (n : Nat) (p : List Int) : Prop := p.length = n ∧ p.Nodup ∧ ∀ x, x ∈ p → 0 ≤ x ∧ x < (n : Int)
def idL (n : Nat) : List Int := (List.range n).map Int.ofNat
theorem swp_perm (p : List Int) (r : Nat) (h : r + 1 < p.length) : (swp p (r : Int)).Perm p := by
 have e1 : rd p ((r : Int) + 1) = p[r + 1] := rd_nat p (r + 1) h
 have e2 : rd p (r : Int) = p[r] := rd_nat p r (by omega)
 unfold swp
 rw [e1, e2]
 show ((p.set r p[r + 1]).set (r + 1) p[r]).Perm p
 exact List.set_set_perm (by omega) h
theorem swp_isOrd {n : Nat} {p : List Int} (hp : isOrd n p) (r : Int) (h0 : 0 ≤ r) (h1 : r + 1 < (n : Int)) : isOrd n (swp p r) := by
 obtain ⟨a, b, c⟩ := hp
 obtain ⟨m, rfl⟩ : ∃ m : Nat, r = m := ⟨r.toNat, by omega⟩
 have hm := swp_perm p m (by omega)
 exact ⟨by rw [swp_length, a], hm.nodup_iff.2 b, fun x hx => c x (hm.mem_iff.1 hx)⟩
theorem topL_isOrd {n : Nat} : ∀ (l : List Int) {p : List Int}, isOrd n p → okRungs n l → isOrd n (topL p l)
 | [], _, h, _ => h
 | r :: l, p, h, hl => by
  have := hl r (by simp)
  exact topL_isOrd l (swp_isOrd h r this.1 this.2) (fun x hx => hl x (by simp [hx]))
theorem idL_isOrd (n : Nat) : isOrd n (idL n) := by
 refine ⟨by simp [idL], ?_, fun x hx => ?_⟩
 ·unfold idL
  refine List.Pairwise.map _ (R := (· ≠ ·)) (fun a b h e => h (by injection e)) List.nodup_range
 ·unfold idL at hx
  simp at hx
  obtain ⟨a, h, rfl⟩ := hx
  omega
theorem idL_mem {n : Nat} {x : Int} (h0 : 0 ≤ x) (h1 : x < (n : Int)) : x ∈ idL n := by
 unfold idL
 rw [List.mem_map]
 exact ⟨x.toNat, List.mem_range.2 (by omega), by show ((x.toNat : Nat) : Int) = x; omega⟩
/-- what is in no list twice, and all in another, is the other one's part -/
theorem sub_part {α : Type} [DecidableEq α] : ∀ {a b : List α}, a.Nodup → (∀ x, x ∈ a → x ∈ b) → ∃ l, (a ++ l).Perm b
 | [], b, _, _ => ⟨b, List.Perm.refl _⟩
 | x :: a, b, hn, hs => by
  rw [List.nodup_cons] at hn
  obtain ⟨l, hl⟩ := sub_part (b := b.erase x) hn.2 (fun y hy => (List.mem_erase_of_ne (fun e => hn.1 (by rw [← e]; exact hy))).2 (hs y (by simp [hy])))
  exact ⟨l, (List.Perm.cons x hl).trans (List.perm_cons_erase (hs x (by simp))).symm⟩
theorem sub_le {α : Type} [DecidableEq α] {a b : List α} (hn : a.Nodup) (hs : ∀ x, x ∈ a → x ∈ b) : a.length ≤ b.length := by
 obtain ⟨l, hl⟩ := sub_part hn hs
 have := hl.length_eq
 rw [List.length_append] at this
 omega
theorem sub_perm {α : Type} [DecidableEq α] {a b : List α} (hn : a.Nodup) (hs : ∀ x, x ∈ a → x ∈ b) (hl : b.length ≤ a.length) : a.Perm b := by
 obtain ⟨l, h⟩ := sub_part hn hs
 have h1 := h.length_eq
 rw [List.length_append] at h1
 have h2 : l = [] := List.eq_nil_of_length_eq_zero (by omega)
 rw [h2, List.append_nil] at h
 exact h
theorem isOrd_perm {n : Nat} {p : List Int} (h : isOrd n p) : p.Perm (idL n) := sub_perm h.2.1 (fun x hx => idL_mem (h.2.2 x hx).1 (h.2.2 x hx).2) (by rw [h.1]; simp [idL])
theorem isOrd_of_order {p : List Int} (h : orderB p = true) : isOrd p.length p := by
 refine ⟨rfl, ?_, fun x hx => order_mem h hx⟩
 have hk := ((orderB_iff p).1 h).2
 rw [List.nodup_iff_pairwise_ne, List.pairwise_iff_getElem]
 intro i j hi hj hij e
 refine (hk j hj).2.2 ?_
 rw [← e, List.mem_take_iff_getElem]
 exact ⟨i, by omega, rfl⟩
theorem swp_at (pre : List Int) (x y : Int) (l : List Int) : swp (pre ++ x :: y :: l) (pre.length : Int) = pre ++ y :: x :: l := by
 have e1 : rd (pre ++ x :: y :: l) ((pre.length : Int) + 1) = y := by
  rw [show ((pre.length : Int) + 1) = ((pre.length + 1 : Nat) : Int) from rfl, rd_nat _ _ (by simp)]
  simp
 have e2 : rd (pre ++ x :: y :: l) (pre.length : Int) = x := by
  rw [rd_nat _ _ (by simp)]
  simp
 unfold swp
 rw [e1, e2]
 show ((pre ++ x :: y :: l).set pre.length y).set (pre.length + 1) x = _
 rw [List.set_append_right _ _ (Nat.le_refl _), List.set_append_right _ _ (by omega)]
 simp
/-- what holds of one order and with each order of its neighbours' exchanges holds of all -/
theorem swp_closed {n : Nat} {S : List Int → Prop} (hS : ∀ p, S p → ∀ r : Nat, r + 1 < n → S (swp p (r : Int))) {a b : List Int} (h : a.Perm b) : ∀ pre : List Int, pre.length + a.length = n → S (pre ++ a) → S (pre ++ b) := by
 induction h with
 | nil => intro pre _ h; exact h
 | cons x _ ih =>
  intro pre hl h
  have := ih (pre ++ [x]) (by simp at hl ⊢; omega) (by simpa using h)
  simpa using this
 | swap x y l =>
  intro pre hl h
  have := hS _ h pre.length (by simp at hl; omega)
  rw [swp_at] at this
  exact this
 | trans h1 _ ih1 ih2 =>
  intro pre hl h
  exact ih2 pre (by rw [← h1.length_eq]; exact hl) (ih1 pre hl h)
theorem ord_closed {n : Nat} {S : List Int → Prop} (h0 : S (idL n)) (hS : ∀ p, S p → ∀ r : Nat, r + 1 < n → S (swp p (r : Int))) {p : List Int} (hp : isOrd n p) : S p :=
 swp_closed hS (isOrd_perm hp).symm [] (by simp [idL]) h0
def Srt (key : Int → Int) (l : List Int) : Prop := l.Pairwise fun a b => key a ≤ key b
theorem insC_inner {cf : Int → Int → Option Int} {key : Int → Int} {L : List Int} (hL : L.length ≤ 1000) (hcf : ∀ x y, x ∈ L → y ∈ L → ∃ d, cf x y = some d ∧ (d < 0 ↔ key x < key y)) {i : Nat} (hi : i < L.length) {R : List Int → Prop}
  (hnext : ∀ S : List Int, S.Perm (L.take (i + 1)) → Srt key S → Got (fun k => insC.l0 cf k (S ++ L.drop (i + 1)) 0 (L.length : Int) ((i + 1 : Nat) : Int)) R) :
  ∀ (d : Nat) (P Q : List Int), P.length = d → (P ++ Q).Perm (L.take i) → Srt key (P ++ Q) → (∀ x ∈ Q, key L[i] < key x) → Got (fun k => insC.l1 cf k (P ++ L[i] :: (Q ++ L.drop (i + 1))) 0 (L.length : Int) (i : Int) (d : Int)) R := by
 have done : ∀ (P Q : List Int), (P ++ Q).Perm (L.take i) → Srt key (P ++ Q) → (∀ x ∈ P, key x ≤ key L[i]) → (∀ x ∈ Q, key L[i] < key x) → Got (fun k => insC.l0 cf k (P ++ L[i] :: (Q ++ L.drop (i + 1))) 0 (L.length : Int) (wrap64 ((i : Int) + 1))) R := by
  intro P Q e hs hP hQ
  rw [wrap_nat i 2000 (by omega) (by omega)]
  have e2 : P ++ L[i] :: (Q ++ L.drop (i + 1)) = (P ++ L[i] :: Q) ++ L.drop (i + 1) := by simp
  rw [e2]
  refine hnext _ ?_ ?_
  ·rw [take_snoc L i hi]
   exact List.perm_middle.trans ((List.Perm.cons _ e).trans (List.perm_append_singleton _ _).symm)
  ·unfold Srt at hs ⊢
   rw [List.pairwise_append] at hs ⊢
   rw [List.pairwise_cons]
   refine ⟨hs.1, ⟨fun a ha => Int.le_of_lt (hQ a ha), hs.2.1⟩, fun a ha b hb => ?_⟩
   rcases List.mem_cons.1 hb with rfl | hb
   ·exact hP a ha
   ·exact hs.2.2 a ha b hb
 intro d
 induction d with
 | zero =>
  intro P Q hP e hs hQ
  obtain rfl : P = [] := List.length_eq_zero_iff.1 hP
  refine Got.succ ?_
  have g0 : ¬ (((0 : Nat) : Int) > 0) := by omega
  simp only [insC.l1, g0, if_false]
  exact done [] Q e hs (by simp) hQ
 | succ d ih =>
  intro P Q hP e hs hQ
  obtain ⟨P', z, rfl⟩ : ∃ P' z, P = P' ++ [z] := ⟨P.dropLast, P.getLast (by intro e; rw [e] at hP; cases hP), (List.dropLast_concat_getLast _).symm⟩
  have hP' : P'.length = d := by simpa using hP
  refine Got.succ ?_
  have hdl : d ≤ 1000 := by have := e.length_eq; simp at this; omega
  have hz : z ∈ L := List.mem_of_mem_take (e.mem_iff.1 (by simp))
  obtain ⟨c, hc, hcz⟩ := hcf L[i] z (List.getElem_mem hi) hz
  generalize hTT : Q ++ L.drop (i + 1) = T
  have hlen : (P' ++ [z] ++ L[i] :: T).length = d + 1 + 1 + T.length := by simp; omega
  have g0 : (((d + 1 : Nat) : Int) > 0) := by omega
  have g1 : (0 : Int) ≤ ((d + 1 : Nat) : Int) := by omega
  have g2 : ((d + 1 : Nat) : Int) < ((P' ++ [z] ++ L[i] :: T).length : Int) := by rw [hlen]; omega
  have g3 : wrap64 (((d + 1 : Nat) : Int) - 1) = (d : Int) := by rw [wrap_in (by omega) (by omega)]; omega
  have g4 : (0 : Int) ≤ (d : Int) := by omega
  have g5 : (d : Int) < ((P' ++ [z] ++ L[i] :: T).length : Int) := by rw [hlen]; omega
  have r1 : rd (P' ++ [z] ++ L[i] :: T) ((d + 1 : Nat) : Int) = L[i] := by
   rw [rdn _ _ (by rw [hlen]; omega), List.getElem_append_right (by simp; omega)]; simp [hP']
  have r2 : rd (P' ++ [z] ++ L[i] :: T) (d : Int) = z := by
   rw [rdn _ _ (by rw [hlen]; omega), List.getElem_append_left (by simp; omega), List.getElem_append_right (by omega)]; simp
  simp only [insC.l1, g0, g1, g2, g3, g4, g5, if_true, r1, r2, hc, Option.bind_some, Int.toNat_natCast]
  refine Got.ite (fun hlt => ?_) (fun hlt => ?_)
  ·have e3 : ((P' ++ [z] ++ L[i] :: T).set (d + 1) z).set d L[i] = P' ++ L[i] :: ((z :: Q) ++ L.drop (i + 1)) := by
    rw [List.append_assoc, List.cons_append, List.nil_append, ← hP', swap_two, ← hTT]; rfl
   rw [e3]
   refine ih P' (z :: Q) hP' (by simpa using e) (by simpa using hs) (fun x hx => ?_)
   rcases List.mem_cons.1 hx with rfl | hx
   ·exact hcz.1 hlt
   ·exact hQ x hx
  ·rw [← hTT]
   refine done (P' ++ [z]) Q e hs (fun x hx => ?_) hQ
   have hle : key z ≤ key L[i] := Int.not_lt.1 fun h => hlt (hcz.2 h)
   unfold Srt at hs
   rw [List.pairwise_append] at hs
   have hp := hs.1
   rw [List.pairwise_append] at hp
   rcases List.mem_append.1 hx with hx | hx
   ·have := hp.2.2 x hx z (by simp); omega
   ·rw [List.mem_singleton.1 hx]; exact hle
theorem insC_got {cf : Int → Int → Option Int} {key : Int → Int} {L : List Int} (hL : L.length ≤ 1000) (hcf : ∀ x y, x ∈ L → y ∈ L → ∃ d, cf x y = some d ∧ (d < 0 ↔ key x < key y)) : Got (fun k => insC.f cf k L 0 (L.length : Int)) (fun r => r.Perm L ∧ Srt key r) := by
 unfold insC.f
 have key : ∀ (d i : Nat), i + d = L.length → ∀ S : List Int, S.Perm (L.take i) → Srt key S → Got (fun k => insC.l0 cf k (S ++ L.drop i) 0 (L.length : Int) (i : Int)) (fun r => r.Perm L ∧ Srt key r) := by
  intro d
  induction d with
  | zero =>
   intro i hi S hS hs
   refine Got.succ ?_
   have g1 : ¬ (i : Int) < (L.length : Int) := by omega
   simp only [insC.l0, g1, if_false]
   rw [List.take_of_length_le (by omega)] at hS
   rw [List.drop_eq_nil_of_le (by omega), List.append_nil]
   exact Got.now _ ⟨hS, hs⟩
  | succ d ih =>
   intro i hi S hS hs
   have hlt : i < L.length := by omega
   refine Got.succ ?_
   have g1 : (i : Int) < (L.length : Int) := by omega
   simp only [insC.l0, g1, if_true]
   have hil : S.length = i := by rw [hS.length_eq, List.length_take]; omega
   have h2 := insC_inner hL hcf hlt (fun S hS hs => ih (i + 1) (by omega) S hS hs) i S [] hil (by simpa using hS) (by simpa using hs) (by simp)
   rw [List.drop_eq_getElem_cons hlt]
   exact h2
 have e1 : wrap64 (0 + 1) = ((1 : Nat) : Int) := wrap_nat 0 10 (by omega) (by omega)
 rw [e1]
 cases L with
 | nil =>
  refine Got.succ ?_
  have g1 : ¬ ((1 : Nat) : Int) < (([] : List Int).length : Int) := by simp
  simp only [insC.l0, g1, if_false]
  exact Got.now _ ⟨.refl _, List.Pairwise.nil⟩
 | cons a L =>
  exact key L.length 1 (by simp; omega) [a] (by simp) (by simp [Srt])
theorem fstTo_mem (l : List Int) (n : Nat) (x : Int) : x ∈ fstTo l n ↔ ∃ j : Nat, j < n ∧ x = (j : Int) ∧ fstHit l j = false := by
 unfold fstTo
 rw [List.mem_map]
 constructor
 ·rintro ⟨j, hj, rfl⟩
  rw [List.mem_filter, List.mem_range] at hj
  exact ⟨j, hj.1, rfl, by simpa using hj.2⟩
 ·rintro ⟨j, hj, rfl, h⟩
  exact ⟨j, by rw [List.mem_filter, List.mem_range]; exact ⟨hj, by simp [h]⟩, rfl⟩
theorem fstHit_iff {l : List Int} (hb : Few l) {j : Nat} (hj : j < l.length) : fstHit l j = false ↔ ∀ i : Nat, (h : i < j) → ap (l[i]'(by omega)) l[j] := by
 unfold fstHit
 have e : l.getD j 0 = l[j] := by rw [List.getD_eq_getElem?_getD, List.getElem?_eq_getElem hj]; rfl
 rw [e, List.any_eq_false]
 constructor
 ·intro h i hi
  have := h l[i] (List.mem_take_iff_getElem.2 ⟨i, by omega, rfl⟩)
  rw [← apV_iff (hb _ (List.getElem_mem _)) (hb _ (List.getElem_mem _))]
  simpa using this
 ·intro h o ho
  obtain ⟨i, hi, rfl⟩ := List.mem_take_iff_getElem.1 ho
  have := (apV_iff (hb _ (List.getElem_mem (by omega))) (hb _ (List.getElem_mem hj))).2 (h i (by omega))
  simp [this]
/-- the rungs that slides bring to the top -/
theorem firsts_got {n : Nat} (hn : n ≤ 8) {l : List Int} (hl : l.length ≤ 60) (hr : ∀ r, r ∈ l → 0 ≤ r ∧ r ≤ (n : Int) - 2) (h0 : l ≠ []) : Got (fun k => impl_firsts.f k l) (fun t => ∃ (v : Int) (i : Nat) (ts : List Int), t = (i : Int) :: ts ∧ (∃ h : i < l.length, l[i] = v) ∧ candB l v = true ∧ (∀ u, candB l u = true → v ≤ u) ∧ l.erase v = l.take i ++ l.drop (i + 1)) := by
 have hb : Few l := fun o ho => by have := hr o ho; omega
 have hpos : 0 < l.length := List.length_pos_iff.2 h0
 have hdist : ((fstTo l l.length).map (rd l)).Nodup := by
  unfold fstTo
  rw [List.map_map]
  refine List.pairwise_map.2 ?_
  refine List.Pairwise.imp_of_mem ?_ (List.Pairwise.filter _ List.pairwise_lt_range)
  intro a b ha hb2 hab
  rw [List.mem_filter, List.mem_range] at ha hb2
  have h1 := (fstHit_iff hb hb2.1).1 (by simpa using hb2.2) a hab
  show rd l (a : Int) ≠ rd l (b : Int)
  rw [rd_nat l a ha.1, rd_nat l b hb2.1]
  exact ap_ne h1
 have hfew : (fstTo l l.length).length ≤ 12 := by
  have h1 := sub_le (b := idL 8) hdist (fun x hx => by
   obtain ⟨y, hy, rfl⟩ := List.mem_map.1 hx
   obtain ⟨j, hj, rfl, _⟩ := (fstTo_mem _ _ _).1 hy
   rw [rd_nat l j hj]
   have := hr l[j] (List.getElem_mem hj)
   exact idL_mem (by omega) (by omega))
  rw [List.length_map] at h1
  have : (idL 8).length = 8 := rfl
  omega
 unfold impl_firsts.f
 have g : l.length ≤ 1000 ∧ (fstTo l l.length).length ≤ 12 := ⟨by omega, hfew⟩
 simp only [g, and_self, if_true]
 refine (insC_got (key := rd l) (by omega) (fun x y hx hy => ?_)).mono ?_
 ·obtain ⟨a, ha, rfl, _⟩ := (fstTo_mem _ _ _).1 hx
  obtain ⟨b, hb2, rfl, _⟩ := (fstTo_mem _ _ _).1 hy
  refine ⟨_, by unfold rungCmp; rw [if_pos (by omega)], ?_⟩
  have h1 := hb l[a] (List.getElem_mem ha)
  have h2 := hb l[b] (List.getElem_mem hb2)
  rw [rd_nat l a ha, rd_nat l b hb2, wrap_in (by omega) (by omega)]
  omega
 ·rintro r ⟨hp, hs⟩
  have h0m : ((0 : Nat) : Int) ∈ fstTo l l.length := (fstTo_mem _ _ _).2 ⟨0, hpos, rfl, (fstHit_iff hb hpos).2 fun i hi => by omega⟩
  have hrn : r ≠ [] := fun e => by rw [e] at hp; have := hp.mem_iff.2 h0m; cases this
  obtain ⟨x, ts, rfl⟩ := List.exists_cons_of_ne_nil hrn
  obtain ⟨i, hi, rfl, hh⟩ := (fstTo_mem _ _ x).1 (hp.mem_iff.1 (by simp))
  have hc : candB l l[i] = true := by
   have hq := (fstHit_iff hb hi).1 hh
   refine (candB_iff l l[i]).2 ⟨i, hi, rfl, hq, ?_⟩
   have hnm : l[i] ∉ l.take i := by
    intro hm
    obtain ⟨j, hj, ej⟩ := List.mem_take_iff_getElem.1 hm
    exact ap_ne (hq j (by omega)) ej
   have hl2 : l = l.take i ++ l[i] :: l.drop (i + 1) := by
    conv => lhs; rw [← List.take_append_drop i l]
    rw [List.drop_eq_getElem_cons hi]
   generalize l[i] = v at hnm hl2
   conv => lhs; rw [hl2]
   rw [List.erase_append_right _ hnm, List.erase_cons_head]
  obtain ⟨i2, hi2, e2, hq2, he2⟩ := (candB_iff l l[i]).1 hc
  have ei : i2 = i := by
   have hq := (fstHit_iff hb hi).1 hh
   rcases Nat.lt_trichotomy i2 i with h | h | h
   ·exact absurd e2 (ap_ne (hq i2 h))
   ·exact h
   ·exact absurd rfl (ap_ne (hq2 i h))
  subst ei
  refine ⟨l[i2], i2, ts, rfl, ⟨hi, rfl⟩, hc, fun u hu => ?_, he2⟩
  obtain ⟨j, hj, ej, hq, _⟩ := (candB_iff l u).1 hu
  have hm : (j : Int) ∈ fstTo l l.length := (fstTo_mem _ _ _).2 ⟨j, hj, rfl, (fstHit_iff hb hj).2 fun a ha => by rw [ej]; exact hq a ha⟩
  have hm2 := hp.mem_iff.2 hm
  rcases List.mem_cons.1 hm2 with h | h
  ·have : j = i2 := by omega
   subst this; omega
  ·unfold Srt at hs
   rw [List.pairwise_cons] at hs
   have := hs.1 _ h
   rw [rd_nat l i2 hi, rd_nat l j hj] at this
   omega
theorem firstSame_go {n : Nat} (hn : n ≤ 8) : ∀ (d : Nat) (l acc : List Int), l.length = d → d ≤ 60 → acc.length + d ≤ 1000 → (∀ r, r ∈ l → 0 ≤ r ∧ r ≤ (n : Int) - 2) → Got (fun k => impl_firstSame.l0 k l acc) (fun r => ∃ o, Nf l o ∧ r = acc ++ o ∧ o.length = l.length)
 | 0, l, acc, hl, _, _, _ => by
  obtain rfl := List.length_eq_zero_iff.1 hl
  refine Got.succ ?_
  have g1 : ¬ ((([] : List Int).length : Int) > 0) := by simp
  simp only [impl_firstSame.l0, g1, if_false]
  exact Got.now _ ⟨[], .nil, by simp, rfl⟩
 | d + 1, l, acc, hl, hd, ha, hr => by
  have h0 : l ≠ [] := fun e => by rw [e] at hl; cases hl
  refine Got.succ ?_
  have g1 : ((l.length : Int) > 0) := by omega
  simp only [impl_firstSame.l0, g1, if_true]
  refine Got.bind (firsts_got hn (by omega) hr h0) ?_
  rintro t ⟨v, i, ts, rfl, ⟨hi, ev⟩, hc, hm, he⟩
  have g2 : (0 : Int) < (((i : Int) :: ts).length : Int) := by rw [List.length_cons]; omega
  have e1 : rd ((i : Int) :: ts) 0 = (i : Int) := rfl
  have g3 : (0 : Int) ≤ (i : Int) := by omega
  have g4 : (i : Int) < (l.length : Int) := by omega
  have g5 : acc.length < 17592186044416 := by omega
  have e2 : impl_without.f l (i : Int) = some (l.erase v) := by
   unfold impl_without.f
   rw [if_pos (by omega), he]
   rfl
  simp only [g2, e1, g3, g4, g5, if_true, e2, Option.bind_some, rd_nat l i hi, ev]
  have hmem : v ∈ l := by rw [← ev]; exact List.getElem_mem hi
  refine (firstSame_go hn d (l.erase v) (acc ++ [v]) (by rw [List.length_erase_of_mem hmem]; omega) (by omega) (by simp; omega) (fun r hr2 => hr r (List.mem_of_mem_erase hr2))).mono ?_
  rintro r ⟨o, ho, rfl, hol⟩
  refine ⟨v :: o, .cons v hc hm ho, by simp, ?_⟩
  rw [List.length_cons, hol, List.length_erase_of_mem hmem]
  omega
theorem FirstSame_got {a : Int} {l : List Int} (h : isLadderB a l = true) : Got (fun k => impl_FirstSame.f k a l) (fun r => ∃ o, Nf l o ∧ r = (a, o, true) ∧ o.length = l.length) := by
 have hl := (isLadderB_iff _ l).1 h
 obtain ⟨n, rfl⟩ : ∃ n : Nat, a = n := ⟨a.toNat, by omega⟩
 unfold impl_FirstSame.f impl_isLadder.f
 simp only [Option.bind_some, h, if_true]
 unfold impl_firstSame.f
 refine Got.bind (firstSame_go (by omega) l.length l [] rfl (by omega) (by simp; omega) hl.2.2.2) ?_
 rintro r ⟨o, ho, e, hol⟩
 have e : r = o := e
 subst e
 exact Got.now _ ⟨r, ho, rfl, hol⟩
def ovr (w r : Int) : Int := if w = r then wrap64 (r + 1) else if w = wrap64 (r + 1) then r else w
/-- Where one comes out. -/
def endOf (w : Int) (rungs : List Int) : Int := rungs.foldl ovr w
def downs (w : Int) : List Int → List Int
 | [] => [w]
 | r :: l => w :: downs (ovr w r) l
theorem downs_length (l : List Int) : ∀ w, (downs w l).length = l.length + 1 := by
 induction l with
 | nil => intro w; rfl
 | cons r l ih => intro w; simp [downs, ih]
theorem downs_last (l : List Int) : ∀ w, (downs w l)[l.length]? = some (endOf w l) := by
 induction l with
 | nil => intro w; rfl
 | cons r l ih => intro w; simp [downs, endOf]; exact ih _
theorem downs_snoc (l : List Int) (r : Int) : ∀ w, downs w (l ++ [r]) = downs w l ++ [ovr (endOf w l) r] := by
 induction l with
 | nil => intro w; rfl
 | cons q l ih => intro w; simp [downs, ih, endOf]
theorem endOf_snoc (l : List Int) (r w : Int) : endOf w (l ++ [r]) = ovr (endOf w l) r := by simp [endOf]
/-- The result. -/
def res (n : Nat) (l : List Int) : List Int := (List.range n).map fun (i : Nat) => endOf (i : Int) l
theorem res_length (n : Nat) (l : List Int) : (res n l).length = n := by simp [res]
theorem res_take (n j : Nat) (l : List Int) (h : j < n) : (res n l).take (j + 1) = (res n l).take j ++ [endOf (j : Int) l] := by
 have hj : j < (res n l).length := by rw [res_length]; exact h
 rw [take_snoc _ j hj]; simp [res]
theorem ovr_plain {w r : Int} (h0 : 0 ≤ r) (h1 : r ≤ 1000) : ovr w r = if w = r then r + 1 else if w = r + 1 then r else w := by
 unfold ovr; rw [wrap_in (by omega) (by omega)]
theorem ovr_comm {x y : Int} (hx : 0 ≤ x ∧ x ≤ 1000) (hy : 0 ≤ y ∧ y ≤ 1000) (h : ap x y) (w : Int) : ovr (ovr w x) y = ovr (ovr w y) x := by
 rw [ovr_plain hx.1 hx.2, ovr_plain hy.1 hy.2, ovr_plain hy.1 hy.2, ovr_plain hx.1 hx.2]
 unfold ap at h
 repeat' split
 all_goals omega
theorem Sl.endOf {l m : List Int} (h : Sl l m) : (∀ r, r ∈ l → 0 ≤ r ∧ r ≤ 1000) → ∀ w, endOf w l = endOf w m := by
 induction h with
 | refl l => exact fun _ _ => rfl
 | swap a b x y h =>
  intro hb w
  unfold Q.endOf
  rw [List.foldl_append, List.foldl_append, List.foldl_cons, List.foldl_cons, List.foldl_cons, List.foldl_cons, ovr_comm (hb x (by simp)) (hb y (by simp)) h]
 | trans s1 _ h1 h2 => exact fun hb w => (h1 hb w).trans (h2 (fun r hr => hb r (s1.perm.mem_iff.2 hr)) w)
theorem Sl.res {l m : List Int} (h : Sl l m) (hb : ∀ r, r ∈ l → 0 ≤ r ∧ r ≤ 1000) (n : Nat) : res n l = res n m := by
 unfold Q.res
 refine List.map_congr_left fun i _ => h.endOf hb _
theorem getD_res (n : Nat) (l : List Int) (i : Nat) : (res n l).getD i 0 = if i < n then endOf (i : Int) l else 0 := by
 unfold res
 rw [List.getD_eq_getElem?_getD, List.getElem?_map]
 split
 ·rename_i h; rw [List.getElem?_eq_getElem (by simpa using h)]; simp
 ·rename_i h; rw [List.getElem?_eq_none (by simpa using h)]; rfl
theorem getD_swp (p : List Int) (r : Nat) (h : r + 1 < p.length) (i : Nat) : (swp p (r : Int)).getD i 0 = if i = r then p.getD (r + 1) 0 else if i = r + 1 then p.getD r 0 else p.getD i 0 := by
 have e1 : ((r : Int) + 1).toNat = r + 1 := by omega
 have e2 : ((r : Int)).toNat = r := by omega
 unfold swp rd
 rw [e1, e2]
 simp only [List.getD_eq_getElem?_getD, List.getElem?_set, List.length_set]
 by_cases h1 : r + 1 = i
 ·subst h1; simp [h]
 ·by_cases h2 : r = i
  ·subst h2; simp [h1, show r < p.length by omega]
  ·simp [h1, h2, Ne.symm h1, Ne.symm h2, show ¬ i = r from fun e => h2 e.symm, show ¬ i = r + 1 from fun e => h1 e.symm]
theorem ext_getD {a b : List Int} (hl : a.length = b.length) (h : ∀ i, i < a.length → a.getD i 0 = b.getD i 0) : a = b := by
 refine List.ext_getElem hl fun i h1 h2 => ?_
 have := h i h1
 rw [List.getD_eq_getElem?_getD, List.getElem?_eq_getElem h1, List.getD_eq_getElem?_getD, List.getElem?_eq_getElem h2] at this
 exact this
theorem res_cons {n : Nat} (hn : n ≤ 1000) {r : Int} (h0 : 0 ≤ r) (h1 : r + 1 < (n : Int)) (l : List Int) : res n (r :: l) = swp (res n l) r := by
 obtain ⟨q, rfl⟩ : ∃ q : Nat, r = q := ⟨r.toNat, by omega⟩
 refine ext_getD (by rw [swp_length, res_length, res_length]) fun i hi => ?_
 rw [res_length] at hi
 rw [getD_swp _ q (by rw [res_length]; omega)]
 simp only [getD_res, hi, show q + 1 < n by omega, show q < n by omega, if_true]
 show endOf (ovr (i : Int) (q : Int)) l = _
 rw [ovr_plain h0 (by omega)]
 by_cases e1 : i = q
 ·subst e1
  rw [if_pos rfl, if_pos rfl]; rfl
 ·by_cases e2 : i = q + 1
  ·subst e2
   rw [if_neg (by omega), if_pos (by omega), if_neg (by omega), if_pos rfl]
  ·rw [if_neg (by omega), if_neg (by omega), if_neg e1, if_neg e2]
theorem swp_swp {p : List Int} {r : Int} (h0 : 0 ≤ r) (h1 : r + 1 < (p.length : Int)) : swp (swp p r) r = p := by
 obtain ⟨q, rfl⟩ : ∃ q : Nat, r = q := ⟨r.toNat, by omega⟩
 refine ext_getD (by rw [swp_length, swp_length]) fun i hi => ?_
 have hl : q + 1 < (swp p (q : Int)).length := by rw [swp_length]; omega
 rw [getD_swp _ q hl, getD_swp _ q (by omega), getD_swp _ q (by omega), getD_swp _ q (by omega)]
 repeat' split
 all_goals first | rfl | omega | (subst_vars; rfl) | (congr 1; omega)
theorem swp_comm {p : List Int} {x y : Int} (hx : 0 ≤ x ∧ x + 1 < (p.length : Int)) (hy : 0 ≤ y ∧ y + 1 < (p.length : Int)) (h : ap x y) : swp (swp p x) y = swp (swp p y) x := by
 obtain ⟨a, rfl⟩ : ∃ q : Nat, x = q := ⟨x.toNat, by omega⟩
 obtain ⟨b, rfl⟩ : ∃ q : Nat, y = q := ⟨y.toNat, by omega⟩
 unfold ap at h
 refine ext_getD (by simp only [swp_length]) fun i hi => ?_
 have l1 : b + 1 < (swp p (a : Int)).length := by rw [swp_length]; omega
 have l2 : a + 1 < (swp p (b : Int)).length := by rw [swp_length]; omega
 have l3 : a + 1 < p.length := by omega
 have l4 : b + 1 < p.length := by omega
 rw [getD_swp _ b l1, getD_swp _ a l2, getD_swp _ a l3, getD_swp _ a l3, getD_swp _ a l3, getD_swp _ b l4, getD_swp _ b l4, getD_swp _ b l4]
 repeat' split
 all_goals first | rfl | omega
theorem topL_past {r : Int} : ∀ (l : List Int) (p : List Int), (∀ o, o ∈ l → ap r o) → 0 ≤ r ∧ r + 1 < (p.length : Int) → okRungs p.length l → topL (swp p r) l = swp (topL p l) r
 | [], _, _, _, _ => rfl
 | o :: l, p, h, hr, hk => by
  have ho := hk o (by simp)
  show topL (swp (swp p r) o) l = swp (topL (swp p o) l) r
  rw [swp_comm hr ho (h o (by simp))]
  exact topL_past l (swp p o) (fun q hq => h q (by simp [hq])) (by rw [swp_length]; exact hr) (by rw [swp_length]; exact fun q hq => hk q (by simp [hq]))
theorem res_level {n : Nat} (hn : n ≤ 1000) (m : List Int) : ∀ (l : List Int), l.Pairwise ap → okRungs n l → res n (l ++ m) = topL (res n m) l
 | [], _, _ => rfl
 | r :: l, hp, hk => by
  rw [List.pairwise_cons] at hp
  have hr := hk r (by simp)
  have hk' : okRungs n l := fun q hq => hk q (by simp [hq])
  rw [List.cons_append, res_cons hn hr.1 hr.2, res_level hn m l hp.2 hk']
  show _ = topL (swp (res n m) r) l
  rw [topL_past l (res n m) hp.1 (by rw [res_length]; exact hr) (by rw [res_length]; exact hk')]
theorem topL_twice : ∀ (l : List Int) (p : List Int), l.Pairwise ap → okRungs p.length l → topL (topL p l) l = p
 | [], _, _, _ => rfl
 | r :: l, p, hp, hk => by
  rw [List.pairwise_cons] at hp
  have hr := hk r (by simp)
  have hk' : okRungs p.length l := fun q hq => hk q (by simp [hq])
  show topL (swp (topL (swp p r) l) r) l = p
  rw [topL_past l p hp.1 hr hk', swp_swp hr.1 (by rw [topL_length]; exact hr.2), topL_twice l p hp.2 hk']
theorem res_nil (n : Nat) : res n [] = idL n := rfl
/-- so many places from r on, every second one -/
def stp : Nat → Nat → List Int
 | 0, _ => []
 | d + 1, r => (r : Int) :: stp d (r + 2)
theorem stp_length (d : Nat) : ∀ r, (stp d r).length = d := by
 induction d with
 | zero => intro r; rfl
 | succ d ih => intro r; simp [stp, ih]
/-- the rungs of a brick -/
def brickL (n j : Nat) : List Int := stp ((n - 1 - j % 2 + 1) / 2) (j % 2)
theorem brickL_length (n j : Nat) (hn : n ≤ 8) : (brickL n j).length ≤ 4 := by unfold brickL; rw [stp_length]; omega
def falls (p : List Int) (r : Int) : Bool := decide (rd p r > rd p (r + 1))
def lvlOf (n j : Nat) (p : List Int) : List Int := (brickL n j).filter (falls p)
def routeP (n : Nat) : Nat → Nat → List Int → List (List Int)
 | 0, _, _ => []
 | m + 1, j, p => lvlOf n j p :: routeP n m (j + 1) (topL p (lvlOf n j p))
theorem routeP_length (n m : Nat) : ∀ j p, (routeP n m j p).length = m := by
 induction m with
 | zero => intro j p; rfl
 | succ m ih => intro j p; simp [routeP, ih]
theorem stp_mem (d : Nat) : ∀ q, ∀ r ∈ stp d q, (q : Int) ≤ r ∧ r + 2 ≤ (q : Int) + 2 * (d : Int) := by
 induction d with
 | zero => intro q r h; simp [stp] at h
 | succ d ih =>
  intro q r h
  simp only [stp, List.mem_cons] at h
  rcases h with rfl | h
  ·omega
  ·have := ih (q + 2) r h; omega
theorem brickL_ok (n j : Nat) : okRungs n (brickL n j) := by
 intro r hr
 have := stp_mem _ _ r hr
 omega
theorem lvlOf_ok (n j : Nat) (p : List Int) : okRungs n (lvlOf n j p) := fun r hr => brickL_ok n j r (List.mem_filter.1 hr).1
theorem lvlOf_length (n j : Nat) (p : List Int) (hn : n ≤ 8) : (lvlOf n j p).length ≤ 4 := Nat.le_trans (List.length_filter_le _ _) (brickL_length n j hn)
def irow (p : List Int) (i : Nat) : Nat → Nat → List (List Int)
 | _, 0 => []
 | j, d + 1 => (if rd p (i : Int) > rd p (j : Int) then [[(i : Int), (j : Int)]] else []) ++ irow p i (j + 1) d
def ips (p : List Int) : Nat → Nat → List (List Int)
 | _, 0 => []
 | i, d + 1 => irow p i (i + 1) d ++ ips p (i + 1) d
theorem irow_length (p : List Int) (i : Nat) (d : Nat) : ∀ j, (irow p i j d).length ≤ d := by
 induction d with
 | zero => intro j; simp [irow]
 | succ d ih => intro j; have := ih (j + 1); simp only [irow, List.length_append]; split <;> simp <;> omega
def fewN (x : Int) (l : List Int) : Nat := l.countP (fun y => decide (x > y))
def invs : List Int → Nat
 | [] => 0
 | x :: l => fewN x l + invs l
theorem irow_count (p : List Int) (i : Nat) (d : Nat) : ∀ j, j + d = p.length → (irow p i j d).length = fewN (rd p (i : Int)) (p.drop j) := by
 induction d with
 | zero => intro j hj; rw [List.drop_of_length_le (by omega)]; rfl
 | succ d ih =>
  intro j hj
  have e : p.drop j = p[j] :: p.drop (j + 1) := List.drop_eq_getElem_cons (by omega)
  have h2 := ih (j + 1) (by omega)
  rw [irow, List.length_append, h2, e, rd_nat p j (by omega)]
  unfold fewN
  rw [List.countP_cons]
  by_cases c : rd p (i : Int) > p[j]
  ·rw [if_pos c, if_pos (by simpa using c)]; simp; omega
  ·rw [if_neg c, if_neg (by simpa using c)]; simp
theorem ips_count (p : List Int) (d : Nat) : ∀ i, i + d = p.length → (ips p i d).length = invs (p.drop i) := by
 induction d with
 | zero => intro j hj; rw [List.drop_of_length_le (by omega)]; rfl
 | succ d ih =>
  intro i hi
  have e : p.drop i = p[i] :: p.drop (i + 1) := List.drop_eq_getElem_cons (by omega)
  rw [ips, List.length_append, ih (i + 1) (by omega), irow_count p i d (i + 1) (by omega), e, invs, rd_nat p i (by omega)]
theorem ips_invs (p : List Int) : (ips p 0 p.length).length = invs p := by
 have := ips_count p p.length 0 (by omega)
 simpa using this
theorem less_swap (z : Int) : ∀ (p : List Int) (r : Nat), r + 1 < p.length → fewN z ((p.set r (p.getD (r + 1) 0)).set (r + 1) (p.getD r 0)) = fewN z p := by
 intro p
 induction p with
 | nil => intro r h; simp at h
 | cons x l ih =>
  intro r h
  cases r with
  | zero =>
   cases l with
   | nil => simp at h
   | cons y l => simp [fewN, List.countP_cons]; omega
  | succ r =>
   have := ih r (by simp at h; omega)
   simp only [List.set_cons_succ, List.getD_cons_succ]
   unfold fewN at this ⊢
   rw [List.countP_cons, List.countP_cons, this]
/-- two neighbours that fall are turned: one pair less -/
theorem invs_swap : ∀ (p : List Int) (r : Nat), r + 1 < p.length → p.getD r 0 > p.getD (r + 1) 0 → invs ((p.set r (p.getD (r + 1) 0)).set (r + 1) (p.getD r 0)) + 1 = invs p := by
 intro p
 induction p with
 | nil => intro r h; simp at h
 | cons x l ih =>
  intro r h hg
  cases r with
  | zero =>
   cases l with
   | nil => simp at h
   | cons y l =>
    simp only [List.getD_cons_zero, List.getD_cons_succ] at hg
    simp only [List.getD_cons_zero, List.getD_cons_succ, List.set_cons_zero, List.set_cons_succ, invs]
    unfold fewN
    rw [List.countP_cons, List.countP_cons, if_neg (by simp; omega), if_pos (by simpa using hg)]
    omega
  | succ r =>
   have h2 : r + 1 < l.length := by simp at h; omega
   simp only [List.getD_cons_succ] at hg
   have := ih r h2 hg
   have h3 := less_swap x l r h2
   simp only [List.set_cons_succ, List.getD_cons_succ, invs]
   omega
theorem invs_rising : ∀ (p : List Int), (∀ i : Nat, i + 1 < p.length → ¬ p.getD i 0 > p.getD (i + 1) 0) → invs p = 0 ∧ ∀ y ∈ p, p.getD 0 0 ≤ y := by
 intro p
 induction p with
 | nil => intro _; exact ⟨rfl, fun y hy => by simp at hy⟩
 | cons x l ih =>
  intro h
  have ih' := ih (fun i hi => by have := h (i + 1) (by simp; omega); simpa using this)
  have hx : ∀ y ∈ l, x ≤ y := by
   intro y hy
   cases l with
   | nil => simp at hy
   | cons z l =>
    have h0 := h 0 (by simp)
    have h1 := ih'.2 y hy
    simp at h0 h1
    omega
  refine ⟨?_, fun y hy => ?_⟩
  ·rw [invs, ih'.1]
   unfold fewN
   rw [Nat.add_zero, List.countP_eq_zero]
   intro y hy
   have := hx y hy
   simp; omega
  ·rcases List.mem_cons.1 hy with rfl | hy
   ·simp
   ·simpa using hx y hy
theorem less_le (x : Int) (l : List Int) : fewN x l ≤ l.length := List.countP_le_length
theorem invs_le (l : List Int) : 2 * invs l + l.length ≤ l.length * l.length := by
 induction l with
 | nil => simp [invs]
 | cons x l ih =>
  have := less_le x l
  rw [invs, List.length_cons, Nat.add_mul, Nat.mul_add l.length]
  omega
theorem stp_gap : ∀ (d q : Nat), (stp d q).Pairwise (fun a b => a + 2 ≤ b)
 | 0, _ => List.Pairwise.nil
 | d + 1, q => by
  rw [stp, List.pairwise_cons]
  exact ⟨fun o ho => by have := stp_mem d (q + 2) o ho; omega, stp_gap d (q + 2)⟩
theorem brickL_gap (n j : Nat) : (brickL n j).Pairwise (fun a b => a + 2 ≤ b) := stp_gap _ _
theorem brickL_ap (n j : Nat) : (brickL n j).Pairwise ap := (brickL_gap n j).imp fun h => .inl h
theorem lvlOf_gap (n j : Nat) (p : List Int) : (lvlOf n j p).Pairwise (fun a b => a + 2 ≤ b) := (brickL_gap n j).sublist List.filter_sublist
theorem lvlOf_ap (n j : Nat) (p : List Int) : (lvlOf n j p).Pairwise ap := (brickL_ap n j).sublist List.filter_sublist
theorem stp_par : ∀ (d q : Nat), ∀ r, r ∈ stp d q → r % 2 = (q : Int) % 2
 | 0, _, r, h => by cases h
 | d + 1, q, r, h => by
  rw [stp] at h
  rcases List.mem_cons.1 h with rfl | h
  ·rfl
  ·have := stp_par d (q + 2) r h; omega
theorem lvlOf_par (n j : Nat) (p : List Int) : ∀ r, r ∈ lvlOf n j p → r % 2 = (j : Int) % 2 := fun r hr => by
 have := stp_par _ _ r (List.mem_filter.1 hr).1
 omega
theorem rd_getD (p : List Int) (r : Nat) : rd p (r : Int) = p.getD r 0 := rfl
theorem rd_getD1 (p : List Int) (r : Nat) : rd p ((r : Int) + 1) = p.getD (r + 1) 0 := rfl
theorem falls_iff (p : List Int) (r : Nat) : falls p (r : Int) = true ↔ p.getD r 0 > p.getD (r + 1) 0 := by
 unfold falls
 rw [rd_getD, rd_getD1, decide_eq_true_eq]
/-- one comparison -/
def ce (p : List Int) (r : Int) : List Int := if falls p r = true then swp p r else p
theorem ce_length (p : List Int) (r : Int) : (ce p r).length = p.length := by
 unfold ce; split
 ·exact swp_length p r
 ·rfl
theorem falls_far {p : List Int} {r o : Nat} (hr : r + 1 < p.length) (h : ap (r : Int) (o : Int)) : falls (swp p (r : Int)) (o : Int) = falls p (o : Int) := by
 unfold ap at h
 unfold falls
 rw [rd_getD, rd_getD1, rd_getD, rd_getD1, getD_swp p r hr, getD_swp p r hr, if_neg (by omega), if_neg (by omega), if_neg (by omega), if_neg (by omega)]
theorem level_ce : ∀ (b : List Int) (p : List Int), b.Pairwise ap → okRungs p.length b → topL p (b.filter (falls p)) = b.foldl ce p
 | [], _, _, _ => rfl
 | r :: b, p, hp, hk => by
  rw [List.pairwise_cons] at hp
  have hr := hk r (by simp)
  obtain ⟨q, rfl⟩ : ∃ q : Nat, r = q := ⟨r.toNat, by omega⟩
  have hk' : okRungs p.length b := fun q hq => hk q (by simp [hq])
  rw [List.foldl_cons]
  by_cases hf : falls p (q : Int) = true
  ·rw [List.filter_cons_of_pos hf]
   have e1 : b.filter (falls p) = b.filter (falls (swp p (q : Int))) := by
    refine List.filter_congr fun o ho => ?_
    have h1 := hk' o ho
    obtain ⟨u, rfl⟩ : ∃ q : Nat, o = q := ⟨o.toNat, by omega⟩
    exact (falls_far (by omega) (hp.1 _ ho)).symm
   show topL (swp p (q : Int)) (b.filter (falls p)) = _
   rw [e1, level_ce b _ hp.2 (by rw [swp_length]; exact hk')]
   unfold ce
   rw [if_pos hf]
  ·rw [List.filter_cons_of_neg hf, level_ce b p hp.2 hk']
   unfold ce
   rw [if_neg hf]
theorem map_swp (f : Int → Int) {p : List Int} {r : Nat} (h : r + 1 < p.length) : (swp p (r : Int)).map f = swp (p.map f) (r : Int) := by
 unfold swp rd
 rw [List.map_set, List.map_set]
 have e1 : ((r : Int) + 1).toNat = r + 1 := by omega
 have e2 : ((r : Int)).toNat = r := by omega
 rw [e1, e2]
 simp only [List.getD_eq_getElem?_getD, List.getElem?_map, List.getElem?_eq_getElem h, List.getElem?_eq_getElem (show r < p.length by omega), Option.map_some, Option.getD_some]
theorem getD_map (f : Int → Int) {p : List Int} {i : Nat} (h : i < p.length) : (p.map f).getD i 0 = f (p.getD i 0) := by
 simp only [List.getD_eq_getElem?_getD, List.getElem?_map, List.getElem?_eq_getElem h, Option.map_some, Option.getD_some]
theorem map_ce (f : Int → Int) (hf : ∀ x y, x ≤ y → f x ≤ f y) {p : List Int} {r : Nat} (h : r + 1 < p.length) : (ce p (r : Int)).map f = ce (p.map f) (r : Int) := by
 have g1 := getD_map f (p := p) (i := r) (by omega)
 have g2 := getD_map f (p := p) (i := r + 1) h
 unfold ce
 by_cases h1 : falls p (r : Int) = true
 ·rw [if_pos h1]
  by_cases h2 : falls (p.map f) (r : Int) = true
  ·rw [if_pos h2, map_swp f h]
  ·rw [if_neg h2, map_swp f h]
   rw [falls_iff] at h1 h2
   rw [g1, g2] at h2
   have h3 := hf (p.getD (r + 1) 0) (p.getD r 0) (by omega)
   refine ext_getD (by rw [swp_length]) fun i hi => ?_
   rw [getD_swp _ r (by rw [List.length_map]; omega), g1, g2]
   split
   ·rename_i e; subst e; rw [g1]; omega
   ·split
    ·rename_i e; subst e; rw [g2]; omega
    ·rfl
 ·rw [if_neg h1]
  by_cases h2 : falls (p.map f) (r : Int) = true
  ·rw [falls_iff] at h1 h2
   rw [g1, g2] at h2
   have := hf (p.getD r 0) (p.getD (r + 1) 0) (by omega)
   omega
  ·rw [if_neg h2]
theorem map_ces (f : Int → Int) (hf : ∀ x y, x ≤ y → f x ≤ f y) : ∀ (b : List Int) (p : List Int), okRungs p.length b → (b.foldl ce p).map f = b.foldl ce (p.map f)
 | [], _, _ => rfl
 | r :: b, p, hk => by
  have hr := hk r (by simp)
  obtain ⟨q, rfl⟩ : ∃ q : Nat, r = q := ⟨r.toNat, by omega⟩
  rw [List.foldl_cons, List.foldl_cons, map_ces f hf b _ (by rw [ce_length]; exact fun q hq => hk q (by simp [hq])), map_ce f hf (by omega)]
/-- all comparisons of m bricks, from the jth on -/
def netP (n : Nat) : Nat → Nat → List Int → List Int
 | 0, _, p => p
 | m + 1, j, p => netP n m (j + 1) ((brickL n j).foldl ce p)
theorem ces_length : ∀ (b : List Int) (p : List Int), (b.foldl ce p).length = p.length
 | [], _ => rfl
 | r :: b, p => by rw [List.foldl_cons, ces_length b, ce_length]
theorem map_net (f : Int → Int) (hf : ∀ x y, x ≤ y → f x ≤ f y) (n : Nat) : ∀ (m j : Nat) (p : List Int), p.length = n → (netP n m j p).map f = netP n m j (p.map f)
 | 0, _, _, _ => rfl
 | m + 1, j, p, h => by
  rw [netP, netP, map_net f hf n m (j + 1) _ (by rw [ces_length]; exact h), map_ces f hf _ p (by rw [h]; exact brickL_ok n j)]
/-- all lists of noughts and ones -/
def bits01 : Nat → List (List Int)
 | 0 => [[]]
 | n + 1 => (bits01 n).flatMap fun l => [0 :: l, 1 :: l]
theorem bits01_all : ∀ (n : Nat) (l : List Int), l.length = n → (∀ x, x ∈ l → x = 0 ∨ x = 1) → l ∈ bits01 n
 | 0, l, hl, _ => by rw [List.length_eq_zero_iff.1 hl]; simp [bits01]
 | n + 1, [], hl, _ => by cases hl
 | n + 1, x :: l, hl, h => by
  refine List.mem_flatMap.2 ⟨l, bits01_all n l (by simpa using hl) (fun y hy => h y (by simp [hy])), ?_⟩
  rcases h x (by simp) with rfl | rfl <;> simp
def upB (l : List Int) : Bool := (List.range (l.length - 1)).all fun i => decide (l.getD i 0 ≤ l.getD (i + 1) 0)
theorem net_bits : (List.range 9).all (fun n => (bits01 n).all fun l => upB (netP n n 0 l)) = true := by decide +kernel
theorem netP_length (n : Nat) : ∀ (m j : Nat) (p : List Int), (netP n m j p).length = p.length
 | 0, _, _ => rfl
 | m + 1, j, p => by rw [netP, netP_length n m, ces_length]
theorem net_up {n : Nat} (hn : n ≤ 8) {p : List Int} (hp : p.length = n) (i : Nat) (hi : i + 1 < n) : (netP n n 0 p).getD i 0 ≤ (netP n n 0 p).getD (i + 1) 0 := by
 let c := (netP n n 0 p).getD i 0
 let f : Int → Int := fun x => if c ≤ x then 1 else 0
 have hf : ∀ x y, x ≤ y → f x ≤ f y := by
  intro x y h
  show (if c ≤ x then (1 : Int) else 0) ≤ if c ≤ y then 1 else 0
  split <;> split <;> omega
 have e := map_net f hf n n 0 p hp
 have hin : p.map f ∈ bits01 n := bits01_all n _ (by simpa using hp) fun x hx => by
  obtain ⟨y, _, rfl⟩ := List.mem_map.1 hx
  show (if c ≤ y then (1 : Int) else 0) = 0 ∨ (if c ≤ y then (1 : Int) else 0) = 1
  split
  ·exact .inr rfl
  ·exact .inl rfl
 have h1 := List.all_eq_true.1 (List.all_eq_true.1 net_bits n (by simp; omega)) _ hin
 rw [← e] at h1
 have hl : (netP n n 0 p).length = n := by rw [netP_length]; exact hp
 have h2 := of_decide_eq_true (List.all_eq_true.1 h1 i (by simp [hl]; omega))
 rw [getD_map f (by omega), getD_map f (by omega)] at h2
 have h3 : f ((netP n n 0 p).getD i 0) = 1 := if_pos (Int.le_refl c)
 rw [h3] at h2
 by_cases h4 : c ≤ (netP n n 0 p).getD (i + 1) 0
 ·exact h4
 ·have h5 : f ((netP n n 0 p).getD (i + 1) 0) = 0 := if_neg h4
  rw [h5] at h2
  omega
theorem up_id {n : Nat} {p : List Int} (hp : isOrd n p) (h : ∀ i, i + 1 < n → p.getD i 0 ≤ p.getD (i + 1) 0) : p = idL n := by
 have hb : ∀ i, i < n → p.getD i 0 ∈ p := fun i hi => by
  rw [List.getD_eq_getElem?_getD, List.getElem?_eq_getElem (by rw [hp.1]; exact hi)]
  exact List.getElem_mem _
 have hlt : ∀ i, i + 1 < n → p.getD i 0 < p.getD (i + 1) 0 := fun i hi => by
  have h1 := h i hi
  have h2 : p.getD i 0 ≠ p.getD (i + 1) 0 := by
   have := List.pairwise_iff_getElem.1 hp.2.1 i (i + 1) (by rw [hp.1]; omega) (by rw [hp.1]; omega) (by omega)
   rw [List.getD_eq_getElem?_getD, List.getElem?_eq_getElem (by rw [hp.1]; omega), List.getD_eq_getElem?_getD, List.getElem?_eq_getElem (by rw [hp.1]; omega)]
   exact this
  omega
 have hlo : ∀ i, i < n → (i : Int) ≤ p.getD i 0 := by
  intro i
  induction i with
  | zero => intro hi; exact (hp.2.2 _ (hb 0 hi)).1
  | succ i ih => intro hi; have := ih (by omega); have := hlt i hi; omega
 have hhi : ∀ d i, i + d + 1 = n → p.getD i 0 ≤ (i : Int) := by
  intro d
  induction d with
  | zero => intro i hi; have := (hp.2.2 _ (hb i (by omega))).2; omega
  | succ d ih => intro i hi; have := ih (i + 1) (by omega); have := hlt i (by omega); omega
 refine ext_getD (by rw [hp.1]; simp [idL]) fun i hi => ?_
 rw [hp.1] at hi
 have h1 := hlo i hi
 have h2 := hhi (n - 1 - i) i (by omega)
 have e : (idL n).getD i 0 = (i : Int) := by
  unfold idL
  rw [List.getD_eq_getElem?_getD, List.getElem?_map, List.getElem?_eq_getElem (by simpa using hi)]
  simp
 rw [e]; omega
theorem net_id {n : Nat} (hn : n ≤ 8) : ∀ (m j : Nat) (p : List Int), isOrd n p → isOrd n (netP n m j p)
 | 0, _, _, h => h
 | m + 1, j, p, h => by
  rw [netP, ← level_ce _ p (brickL_ap n j) (by rw [h.1]; exact brickL_ok n j)]
  exact net_id hn m (j + 1) _ (topL_isOrd _ h (lvlOf_ok n j p))
theorem net_sorts {n : Nat} (hn : n ≤ 8) {p : List Int} (hp : isOrd n p) : netP n n 0 p = idL n := up_id (net_id hn n 0 p hp) fun i hi => net_up hn hp.1 i hi
theorem route_res {n : Nat} (hn : n ≤ 8) : ∀ (m j : Nat) (p : List Int), isOrd n p → netP n m j p = idL n → res n (routeP n m j p).flatten = p
 | 0, _, p, _, h => by
  rw [netP] at h
  rw [routeP, h]; rfl
 | m + 1, j, p, hp, h => by
  rw [netP, ← level_ce _ p (brickL_ap n j) (by rw [hp.1]; exact brickL_ok n j)] at h
  have ih := route_res hn m (j + 1) _ (topL_isOrd _ hp (lvlOf_ok n j p)) h
  show res n (lvlOf n j p ++ (routeP n m (j + 1) (topL p (lvlOf n j p))).flatten) = p
  rw [res_level (by omega) _ _ (lvlOf_ap n j p) (lvlOf_ok n j p), ih, topL_twice _ _ (lvlOf_ap n j p) (by rw [hp.1]; exact lvlOf_ok n j p)]
theorem invs_level : ∀ (l : List Int) (p : List Int), l.Pairwise ap → okRungs p.length l → (∀ o, o ∈ l → falls p o = true) → invs (topL p l) + l.length = invs p
 | [], _, _, _, _ => rfl
 | r :: l, p, hp, hk, hf => by
  rw [List.pairwise_cons] at hp
  have hr := hk r (by simp)
  obtain ⟨q, rfl⟩ : ∃ q : Nat, r = q := ⟨r.toNat, by omega⟩
  have ih := invs_level l (swp p (q : Int)) hp.2 (by rw [swp_length]; exact fun q hq => hk q (by simp [hq])) (fun o ho => by
   have h1 := hk o (by simp [ho])
   obtain ⟨u, rfl⟩ : ∃ q : Nat, o = q := ⟨o.toNat, by omega⟩
   rw [falls_far (by omega) (hp.1 _ ho)]
   exact hf _ (by simp [ho]))
  have h2 : invs (swp p (q : Int)) + 1 = invs p := invs_swap p q (by omega) ((falls_iff p q).1 (hf _ (by simp)))
  show invs (topL (swp p (q : Int)) l) + (l.length + 1) = invs p
  omega
theorem route_count {n : Nat} (hn : n ≤ 8) : ∀ (m j : Nat) (p : List Int), isOrd n p → netP n m j p = idL n → (routeP n m j p).flatten.length = invs p
 | 0, _, p, _, h => by
  rw [netP] at h
  rw [routeP, h]
  refine (((invs_rising (idL n) fun i hi => ?_).1).symm)
  unfold idL at hi ⊢
  rw [List.length_map, List.length_range] at hi
  rw [List.getD_eq_getElem?_getD, List.getD_eq_getElem?_getD, List.getElem?_map, List.getElem?_map, List.getElem?_eq_getElem (by simp; omega), List.getElem?_eq_getElem (by simp; omega)]
  simp
  omega
 | m + 1, j, p, hp, h => by
  rw [netP, ← level_ce _ p (brickL_ap n j) (by rw [hp.1]; exact brickL_ok n j)] at h
  have ih := route_count hn m (j + 1) _ (topL_isOrd _ hp (lvlOf_ok n j p)) h
  have h2 := invs_level (lvlOf n j p) p (lvlOf_ap n j p) (by rw [hp.1]; exact lvlOf_ok n j p) (fun o ho => (List.mem_filter.1 ho).2)
  show (lvlOf n j p ++ (routeP n m (j + 1) (topL p (lvlOf n j p))).flatten).length = invs p
  rw [List.length_append, ih]
  omega
theorem l1Has_ev (l : List Int) (x : Int) (hn : l.length ≤ 9223372036854775807) : Ev (fun k => spec_l1Has.f k l x) (decide (x ∈ l)) := by
 have key := Ev.upto (L := fun k j (_ : Unit) => spec_l1Has.l0 k x l (l.length : Int) (j : Int)) (R := fun j _ => decide (x ∈ l.drop j)) (n := l.length)
  (fun _ => by
   refine Ev.succ (Ev.ret fun k => ?_)
   rw [spec_l1Has.l0, if_neg (by omega)]; simp)
  (fun j _ hj ih => by
   refine Ev.succ ?_
   have h1 : (j : Int) < (l.length : Int) := by omega
   have h0 : (0 : Int) ≤ (j : Int) := by omega
   simp only [spec_l1Has.l0, h1, h0, if_true, rd_nat l j hj, wrap_nat j _ hj hn]
   rw [List.drop_eq_getElem_cons hj]
   refine Ev.ite (fun h => ?_) (fun h => ?_)
   ·refine Ev.eq (Ev.now _) ?_; simp [h]
   ·refine Ev.eq (ih ()) ?_
    have h' : ¬ x = l[j] := fun e => h e.symm
    rw [decide_eq_decide, List.mem_cons]
    exact ⟨fun m => .inr m, fun m => m.resolve_left h'⟩)
 have := key 0 () (Nat.zero_le _)
 rw [List.drop_zero] at this
 exact this
theorem l1Own_f (p : List Int) (hn : p.length ≤ 1000000) : spec_l1Own.f p = some p := by
 have g1 : ([] : List Int).length + p.length < 17592186044416 := by simp; omega
 unfold spec_l1Own.f
 simp only [Option.bind_some, g1, if_true, List.nil_append]
theorem alSwap_f (p : List Int) (r : Int) (h0 : 0 ≤ r) (h1 : r + 1 < (p.length : Int)) (hn : p.length ≤ 1000000) : spec_alSwap.f p r = some (swp p r) := by
 have e : wrap64 (r + 1) = r + 1 := wrap_in (by omega) (by omega)
 have g2 : (0 : Int) ≤ r + 1 := by omega
 have g3 : r < (p.length : Int) := by omega
 unfold spec_alSwap.f swp
 simp only [l1Own_f p hn, if_true, Option.bind_some, e, g2, h1, h0, g3]
theorem lvTop_ev (p l : List Int) (hn : p.length ≤ 1000000) (hl : l.length ≤ 1000000) (h : okRungs p.length l) : Ev (fun k => spec_lvTop.f k p l) (topL p l) := by
 have key := Ev.inv (σ := List Int) (L := fun k j s => spec_lvTop.l0 k s l (l.length : Int) (j : Int)) (r := topL p l) (n := l.length)
  (Inv := fun j s => s = topL p (l.take j))
  (fun s hs => by
   subst hs
   refine Ev.succ (Ev.ret fun k => ?_)
   rw [spec_lvTop.l0, if_neg (by omega), List.take_length])
  (fun j s hj hs ih => by
   subst hs
   refine Ev.succ ?_
   have h1 : (j : Int) < (l.length : Int) := by omega
   have h0 : (0 : Int) ≤ (j : Int) := by omega
   have hr := h l[j] (List.getElem_mem hj)
   have e := alSwap_f (topL p (l.take j)) l[j] hr.1 (by rw [topL_length]; exact hr.2) (by rw [topL_length]; exact hn)
   simp only [spec_lvTop.l0, h1, h0, if_true, rd_nat l j hj, wrap_nat j _ hj (by omega), e, Option.bind_some]
   exact ih _ (topL_take p l j hj).symm)
 exact key 0 p (Nat.zero_le _) rfl
def lessN (x : Int) (l : List Int) : Nat := (l.filter fun y => decide (y < x)).length
def rankG : List Int → Nat → Nat
 | [], r => r
 | x :: l, r => rankG l (r * (l.length + 1) + lessN x l)
def rankL (p : List Int) : Nat := rankG p 0
def extL (n : Nat) (ps : List (List Int)) : List (List Int) := ps.flatMap fun p => ((List.range n).filter fun x => !decide (((x : Nat) : Int) ∈ p)).map fun x => p ++ [((x : Nat) : Int)]
def ordL (n : Nat) : Nat → List (List Int)
 | 0 => [[]]
 | j + 1 => extL n (ordL n j)
/-- all orders of so many numbers -/
def allO (n : Nat) : List (List Int) := ordL n n
theorem ordL_small : (List.range 7).all (fun n => (List.range (n + 1)).all fun j => decide ((ordL n j).length ≤ 1000) && (match ordL n j with | [] => false | p :: _ => p.length == j)) = true := by decide +kernel
theorem allO_ranks : (List.range 7).all (fun n => (allO n).map rankL == List.range (allO n).length) = true := by decide +kernel
theorem ordL_head (n j : Nat) (hn : n ≤ 6) (hj : j ≤ n) : (ordL n j).length ≤ 1000 ∧ ∃ p ps, ordL n j = p :: ps ∧ p.length = j := by
 have h := List.all_eq_true.1 (List.all_eq_true.1 ordL_small n (by simp; omega)) j (by simp; omega)
 rw [Bool.and_eq_true] at h
 refine ⟨of_decide_eq_true h.1, ?_⟩
 cases e : ordL n j with
 | nil => rw [e] at h; cases h.2
 | cons p ps => rw [e] at h; exact ⟨p, ps, rfl, by simpa using h.2⟩
theorem ordL_mem (n : Nat) : ∀ (j : Nat) (p : List Int), p ∈ ordL n j ↔ (p.length = j ∧ p.Nodup ∧ ∀ x, x ∈ p → 0 ≤ x ∧ x < (n : Int))
 | 0, p => by
  simp only [ordL, List.mem_singleton]
  constructor
  ·rintro rfl; simp
  ·rintro ⟨h, _⟩; exact List.eq_nil_of_length_eq_zero h
 | j + 1, p => by
  simp only [ordL, extL, List.mem_flatMap, List.mem_map, List.mem_filter, List.mem_range]
  constructor
  ·rintro ⟨q, hq, x, ⟨hx, hn⟩, rfl⟩
   obtain ⟨a, b, c⟩ := (ordL_mem n j q).1 hq
   have hn2 : ¬ ((x : Nat) : Int) ∈ q := by simpa using hn
   refine ⟨by simp [a], ?_, fun y hy => ?_⟩
   ·rw [List.nodup_append]
    refine ⟨b, by simp, fun y hy z hz e => ?_⟩
    rw [List.mem_singleton] at hz
    exact hn2 (by rw [← hz, ← e]; exact hy)
   ·rw [List.mem_append] at hy
    rcases hy with hy | hy
    ·exact c y hy
    ·rw [List.mem_singleton] at hy
     omega
  ·rintro ⟨a, b, c⟩
   obtain ⟨q, y, rfl⟩ : ∃ q y, p = q ++ [y] := ⟨p.dropLast, p.getLast (by intro e; rw [e] at a; cases a), (List.dropLast_concat_getLast _).symm⟩
   rw [List.nodup_append] at b
   have hy := c y (by simp)
   refine ⟨q, (ordL_mem n j q).2 ⟨by simpa using a, b.1, fun x hx => c x (by simp [hx])⟩, y.toNat, ⟨by omega, ?_⟩, ?_⟩
   ·have : ¬ y ∈ q := fun h => b.2.2 y h y (by simp) rfl
    rw [show ((y.toNat : Nat) : Int) = y by omega]
    simp [this]
   ·rw [show ((y.toNat : Nat) : Int) = y by omega]
theorem allO_mem (n : Nat) (p : List Int) : p ∈ allO n ↔ isOrd n p := ordL_mem n n p
theorem allO_rank {n : Nat} (hn : n ≤ 6) {i : Nat} (hi : i < (allO n).length) : rankL (allO n)[i] = i := by
 have h := List.all_eq_true.1 allO_ranks n (by simp; omega)
 have h2 := eq_of_beq h
 have h3 : ((allO n).map rankL)[i]? = (List.range (allO n).length)[i]? := by rw [h2]
 rw [List.getElem?_map, List.getElem?_eq_getElem hi, List.getElem?_range hi] at h3
 simpa using h3
theorem allO_at {n : Nat} (hn : n ≤ 6) {p : List Int} (hp : isOrd n p) : (allO n)[rankL p]? = some p := by
 obtain ⟨i, hi, rfl⟩ := List.getElem_of_mem ((allO_mem n p).2 hp)
 rw [allO_rank hn hi, List.getElem?_eq_getElem hi]
theorem rank_lt {n : Nat} (hn : n ≤ 6) {p : List Int} (hp : isOrd n p) : rankL p < (allO n).length := (List.getElem?_eq_some_iff.1 (allO_at hn hp)).1
theorem lessN_le (x : Int) (l : List Int) : lessN x l ≤ l.length := List.length_filter_le _ _
theorem lessN_cons (x y : Int) (l : List Int) : lessN x (y :: l) = (if y < x then 1 else 0) + lessN x l := by
 unfold lessN
 rw [List.filter_cons]
 by_cases h : y < x
 ·simp [h]; omega
 ·simp [h]
theorem wrap_small (m : Nat) (h : m ≤ 1000000000) : wrap64 (m : Int) = (m : Int) := by unfold wrap64; omega
theorem alRank_l1 (p : List Int) (r i : Int) (x : Int) (l : List Int) (j : Int) (n : Int) (tl : List Int) (hl : tl.length ≤ 1000) (v : Int) (d : Nat) : ∀ (q : Nat) (c : Nat), q + d = tl.length → c ≤ q → 
  Ev (fun k => spec_alRank.l0 k p (wrap64 ((wrap64 (r * (wrap64 ((p.length : Int) - i)))) + ((c + lessN x (tl.drop q) : Nat) : Int))) l n (wrap64 (j + 1))) v → Ev (fun k => spec_alRank.l1 k p r i x (c : Int) l n j tl (tl.length : Int) (q : Int)) v := by
 induction d with
 | zero =>
  intro q c hq _ h
  refine Ev.succ ?_
  have g1 : ¬ (q : Int) < (tl.length : Int) := by omega
  simp only [spec_alRank.l1, g1, if_false]
  rw [List.drop_eq_nil_of_le (by omega)] at h
  simpa [lessN] using h
 | succ d ih =>
  intro q c hq hc h
  have hql : q < tl.length := by omega
  refine Ev.succ ?_
  have g1 : (q : Int) < (tl.length : Int) := by omega
  have g2 : (0 : Int) ≤ (q : Int) := by omega
  simp only [spec_alRank.l1, g1, g2, if_true, rd_nat tl q hql, wrap_nat q tl.length hql (by omega)]
  rw [List.drop_eq_getElem_cons hql] at h
  refine Ev.ite (fun hlt => ?_) (fun hlt => ?_)
  ·rw [wrap_nat c 2000 (by omega) (by omega)]
   refine ih (q + 1) (c + 1) (by omega) (by omega) ?_
   rw [lessN_cons, if_pos hlt, ← Nat.add_assoc] at h
   exact h
  ·refine ih (q + 1) c (by omega) (by omega) ?_
   rw [lessN_cons, if_neg hlt, Nat.zero_add] at h
   exact h
theorem alRank_l0 (p : List Int) (hp : p.length ≤ 8) (d : Nat) : ∀ (i : Nat) (r : Nat), i + d = p.length → r < 9 ^ i → Ev (fun k => spec_alRank.l0 k p (r : Int) p (p.length : Int) (i : Int)) ((rankG (p.drop i) r : Nat) : Int) := by
 induction d with
 | zero =>
  intro i r hi _
  refine Ev.succ (Ev.ret fun k => ?_)
  rw [spec_alRank.l0, if_neg (by omega), List.drop_eq_nil_of_le (by omega)]
  rfl
 | succ d ih =>
  intro i r hi hr
  have hil : i < p.length := by omega
  refine Ev.succ ?_
  have g1 : (i : Int) < (p.length : Int) := by omega
  have g2 : (0 : Int) ≤ (i : Int) := by omega
  have g3 : (0 : Int) ≤ ((i + 1 : Nat) : Int) := by omega
  have g4 : ((i + 1 : Nat) : Int) ≤ (p.length : Int) := by omega
  simp only [spec_alRank.l0, g1, g2, if_true, wrap_nat i p.length hil (by omega), g3, g4, rd_nat p i hil]
  rw [show (((i + 1 : Nat) : Int)).toNat = i + 1 from rfl]
  have h9 : (9 : Nat) ^ i ≤ 9 ^ 8 := Nat.pow_le_pow_right (by decide) (by omega)
  rw [show (9 : Nat) ^ 8 = 43046721 by decide] at h9
  have hP : (9 : Nat) ^ (i + 1) = 9 ^ i * 9 := Nat.pow_succ ..
  obtain ⟨P, eP⟩ : ∃ P, (9 : Nat) ^ i = P := ⟨_, rfl⟩
  rw [eP] at hr h9 hP
  have hls := lessN_le p[i] (p.drop (i + 1))
  have hdl : (p.drop (i + 1)).length = p.length - (i + 1) := List.length_drop ..
  refine alRank_l1 p (r : Int) (i : Int) p[i] p (i : Int) (p.length : Int) (p.drop (i + 1)) (by omega) _ (p.drop (i + 1)).length 0 0 (by omega) (by omega) ?_
  have hmul : r * (p.length - i) ≤ r * 8 := Nat.mul_le_mul_left _ (by omega)
  have e1 : wrap64 ((p.length : Int) - (i : Int)) = ((p.length - i : Nat) : Int) := by
   rw [← wrap_small (p.length - i) (by omega)]
   congr 1
   omega
  rw [e1, List.drop_zero, Nat.zero_add, ← Int.natCast_mul, wrap_small (r * (p.length - i)) (by omega), ← Int.natCast_add, wrap_small (r * (p.length - i) + lessN p[i] (p.drop (i + 1))) (by omega), wrap_nat i p.length hil (by omega)]
  refine Ev.eq (ih (i + 1) _ (by omega) (by rw [hP]; omega)) ?_
  rw [List.drop_eq_getElem_cons hil, rankG, hdl, show p.length - (i + 1) + 1 = p.length - i by omega]
theorem alRank_ev (p : List Int) (hp : p.length ≤ 8) : Ev (fun k => spec_alRank.f k p) ((rankL p : Nat) : Int) := by
 unfold spec_alRank.f
 have := alRank_l0 p hp p.length 0 0 (by omega) (by simp)
 rw [List.drop_zero] at this
 exact this
theorem alOrders_l2 (n : Nat) (hn : n ≤ 6) (ps : List (List Int)) (i : Nat) (p : List Int) (hp : p.length ≤ 100) (v : List (List Int)) (d : Nat) : ∀ (x : Nat) (acc : List (List Int)), x + d = n → acc.length + d ≤ 100000 →
  Ev (fun k => spec_alOrders.l1 k (n : Int) (acc ++ ((List.range' x d).filter fun x => !decide (((x : Nat) : Int) ∈ p)).map fun x => p ++ [((x : Nat) : Int)]) ps (ps.length : Int) (wrap64 ((i : Int) + 1))) v → Ev (fun k => spec_alOrders.l2 k (n : Int) acc p (x : Int) ps (ps.length : Int) (i : Int)) v := by
 induction d with
 | zero =>
  intro x acc hx _ h
  refine Ev.succ ?_
  have g1 : ¬ (x : Int) < (n : Int) := by omega
  simp only [spec_alOrders.l2, g1, if_false]
  simpa using h
 | succ d ih =>
  intro x acc hx hl h
  refine Ev.succ ?_
  have g1 : (x : Int) < (n : Int) := by omega
  simp only [spec_alOrders.l2, g1, if_true, wrap_nat x n (by omega) (by omega)]
  refine Ev.bind (l1Has_ev p (x : Int) (by omega)) ?_
  rw [List.range'_succ] at h
  by_cases hm : (x : Int) ∈ p
  ·simp only [hm, decide_true, if_true]
   refine ih (x + 1) acc (by omega) (by omega) ?_
   rw [List.filter_cons_of_neg (by simp [hm])] at h
   exact h
  ·have g2 : p.length < 17592186044416 := by omega
   have g3 : acc.length < 5864062014805 := by omega
   simp only [hm, decide_false, Bool.false_eq_true, if_false, l1Own_f p (by omega), Option.bind_some, g2, g3, if_true]
   refine ih (x + 1) _ (by omega) (by simp; omega) ?_
   rw [List.filter_cons_of_pos (by simp [hm]), List.map_cons] at h
   rw [List.append_assoc]
   exact h
theorem alOrders_l1 (n : Nat) (hn : n ≤ 6) (ps : List (List Int)) (hps : ps.length ≤ 1000) (hs : ∀ p, p ∈ ps → p.length ≤ 100) (v : List (List Int)) (d : Nat) : ∀ (i : Nat) (acc : List (List Int)), i + d = ps.length → acc.length + 10 * d ≤ 90000 →
  Ev (fun k => spec_alOrders.l0 k (n : Int) (acc ++ extL n (ps.drop i))) v → Ev (fun k => spec_alOrders.l1 k (n : Int) acc ps (ps.length : Int) (i : Int)) v := by
 induction d with
 | zero =>
  intro i acc hi _ h
  refine Ev.succ ?_
  have g1 : ¬ (i : Int) < (ps.length : Int) := by omega
  simp only [spec_alOrders.l1, g1, if_false]
  rw [List.drop_eq_nil_of_le (by omega)] at h
  simpa [extL] using h
 | succ d ih =>
  intro i acc hi hl h
  have hil : i < ps.length := by omega
  refine Ev.succ ?_
  have g1 : (i : Int) < (ps.length : Int) := by omega
  have g2 : (0 : Int) ≤ (i : Int) := by omega
  simp only [spec_alOrders.l1, g1, g2, if_true, rd_rows ps i hil]
  refine alOrders_l2 n hn ps i ps[i] (hs _ (List.getElem_mem hil)) v n 0 acc (by omega) (by omega) ?_
  rw [wrap_nat i ps.length hil (by omega)]
  have hfl := List.length_filter_le (fun x : Nat => !decide (((x : Nat) : Int) ∈ ps[i])) (List.range' 0 n)
  rw [List.length_range'] at hfl
  refine ih (i + 1) _ (by omega) (by rw [List.length_append, List.length_map]; omega) ?_
  rw [List.drop_eq_getElem_cons hil] at h
  rw [List.append_assoc, ← List.range_eq_range']
  exact h
theorem alOrders_ev (n : Nat) (hn : n ≤ 6) : Ev (fun k => spec_alOrders.f k (n : Int)) (allO n) := by
 unfold spec_alOrders.f
 have key : ∀ (d j : Nat), j + d = n → Ev (fun k => spec_alOrders.l0 k (n : Int) (ordL n j)) (allO n) := by
  intro d
  induction d with
  | zero =>
   intro j hj
   obtain ⟨hl, p, ps, e, hp⟩ := ordL_head n j hn (by omega)
   refine Ev.succ (Ev.ret fun k => ?_)
   have g1 : 0 < ((ordL n j).length : Int) := by rw [e, List.length_cons]; omega
   have g2 : ¬ ((rd_L2 (ordL n j) 0).length : Int) < (n : Int) := by
    rw [e]
    show ¬ ((p.length : Nat) : Int) < _
    omega
   rw [spec_alOrders.l0, if_pos g1, if_neg g2]
   rw [show j = n by omega]
   rfl
  | succ d ih =>
   intro j hj
   obtain ⟨hl, p, ps, e, hp⟩ := ordL_head n j hn (by omega)
   refine Ev.succ ?_
   have g1 : 0 < ((ordL n j).length : Int) := by rw [e, List.length_cons]; omega
   have g2 : ((rd_L2 (ordL n j) 0).length : Int) < (n : Int) := by
    rw [e]
    show ((p.length : Nat) : Int) < _
    omega
   simp only [spec_alOrders.l0, g1, g2, if_true]
   refine alOrders_l1 n hn (ordL n j) hl (fun q hq => by have := ((ordL_mem n j q).1 hq).1; omega) _ (ordL n j).length 0 [] (by omega) (by simp; omega) ?_
   rw [List.drop_zero, List.nil_append]
   exact ih (j + 1) (by omega)
 exact key n 0 (by omega)
theorem exchanged_f (p : List Int) (r : Int) (h0 : 0 ≤ r) (h1 : r + 1 < (p.length : Int)) (hn : p.length ≤ 1000000) : impl_exchanged.f p r = some (swp p r) := by
 have e : wrap64 (r + 1) = r + 1 := wrap_in (by omega) (by omega)
 have g1 : p.length ≤ 17592186044416 := by omega
 have g2 : (0 : Int) ≤ r + 1 := by omega
 have g3 : r < (p.length : Int) := by omega
 unfold impl_exchanged.f slices_Clone_int_int.f swp
 simp only [g1, if_true, Option.bind_some, e, g2, h1, h0, g3]
theorem laid_ev (p l : List Int) (hn : p.length ≤ 1000000) (hl : l.length ≤ 1000000) (h : okRungs p.length l) : Ev (fun k => impl_laid.f k p l) (topL p l) := by
 have key := Ev.inv (σ := List Int) (L := fun k j s => impl_laid.l0 k s l (l.length : Int) (j : Int)) (r := topL p l) (n := l.length)
  (Inv := fun j s => s = topL p (l.take j))
  (fun s hs => by
   subst hs
   refine Ev.succ (Ev.ret fun k => ?_)
   rw [impl_laid.l0, if_neg (by omega), List.take_length])
  (fun j s hj hs ih => by
   subst hs
   refine Ev.succ ?_
   have h1 : (j : Int) < (l.length : Int) := by omega
   have h0 : (0 : Int) ≤ (j : Int) := by omega
   have hr := h l[j] (List.getElem_mem hj)
   have e := exchanged_f (topL p (l.take j)) l[j] hr.1 (by rw [topL_length]; exact hr.2) (by rw [topL_length]; exact hn)
   simp only [impl_laid.l0, h1, h0, if_true, rd_nat l j hj, wrap_nat j _ hj (by omega), e, Option.bind_some]
   exact ih _ (topL_take p l j hj).symm)
 exact key 0 p (Nat.zero_le _) rfl
def rowsL (n : Nat) : List (List Int) := lvl (n - 1) 8 0 []
def sIn (p : List Int) (v : Int) (ls : List (List Int)) (q : List (List Int × Int)) : List (List Int × Int) := ls.foldl (fun q l => putD (topL p l) v q) q
def sF (ls : List (List Int)) : Nat → Nat → List (List Int × Int) → List (List Int × Int)
 | 0, _, q => q
 | f + 1, i, q => match q[i]? with
  | none => q
  | some e => sF ls f (i + 1) (sIn e.1 (e.2 + 1) ls q)
/-- all orders of so many numbers in the order in which they are met, each with its depth -/
def depQ (n : Nat) : List (List Int × Int) := sF (rowsL n) 1001 0 [(idL n, 0)]
theorem rowsL_ok : (List.range 7).all (fun n => (rowsL n).all (fun l => decide (l.length ≤ 8) && l.all fun r => decide (0 ≤ r ∧ r + 1 < (n : Int))) && (List.range (n - 1)).all fun r => (rowsL n).contains [((r : Nat) : Int)]) = true := by decide +kernel
theorem allO_few : (List.range 7).all (fun n => decide ((allO n).length ≤ 1000)) = true := by decide +kernel
theorem rowsL_small : (List.range 7).all (fun n => decide ((rowsL n).length ≤ 1000)) = true := by decide +kernel
theorem rows_ok {n : Nat} (hn : n ≤ 6) {l : List Int} (hl : l ∈ rowsL n) : l.length ≤ 8 ∧ okRungs n l := by
 have h := List.all_eq_true.1 rowsL_ok n (by simp; omega)
 rw [Bool.and_eq_true] at h
 have h1 := List.all_eq_true.1 h.1 l hl
 rw [Bool.and_eq_true, List.all_eq_true] at h1
 exact ⟨of_decide_eq_true h1.1, fun r hr => of_decide_eq_true (h1.2 r hr)⟩
theorem rows_one {n : Nat} (hn : n ≤ 6) {r : Nat} (hr : r + 1 < n) : [((r : Nat) : Int)] ∈ rowsL n := by
 have h := List.all_eq_true.1 rowsL_ok n (by simp; omega)
 rw [Bool.and_eq_true] at h
 have := List.all_eq_true.1 h.2 r (by simp; omega)
 simpa using this
theorem allO_le {n : Nat} (hn : n ≤ 6) : (allO n).length ≤ 1000 := of_decide_eq_true (List.all_eq_true.1 allO_few n (by simp; omega))
structure GoodQ (n : Nat) (q : List (List Int × Int)) : Prop where
 ord : ∀ e, e ∈ q → isOrd n e.1
 nd : (q.map (·.1)).Nodup
 dep : ∀ (j : Nat) e, q[j]? = some e → 0 ≤ e.2 ∧ e.2 ≤ (j : Int)
theorem GoodQ.le {n : Nat} {q : List (List Int × Int)} (h : GoodQ n q) (hn : n ≤ 6) : q.length ≤ 1000 := by
 have := sub_le h.nd (b := allO n) (fun x hx => by
  rw [List.mem_map] at hx
  obtain ⟨e, he, rfl⟩ := hx
  exact (allO_mem n _).2 (h.ord e he))
 rw [List.length_map] at this
 exact Nat.le_trans this (allO_le hn)
theorem GoodQ.put {n : Nat} {q : List (List Int × Int)} (h : GoodQ n q) {x : List Int} {v : Int} (hx : isOrd n x) (h0 : 0 ≤ v) (h1 : v ≤ (q.length : Int)) : GoodQ n (putD x v q) := by
 unfold putD
 by_cases hm : q.any (fun e => decide (e.1 = x)) = true
 ·rw [if_pos hm]; exact h
 ·rw [if_neg hm]
  have hm2 : ∀ e, e ∈ q → e.1 ≠ x := fun e he e1 => hm (List.any_eq_true.2 ⟨e, he, decide_eq_true e1⟩)
  refine ⟨fun e he => ?_, ?_, fun j e he => ?_⟩
  ·rcases List.mem_append.1 he with he | he
   ·exact h.ord e he
   ·rw [List.mem_singleton] at he; rw [he]; exact hx
  ·rw [List.map_append, List.nodup_append]
   refine ⟨h.nd, by simp, fun a ha b hb e => ?_⟩
   rw [List.mem_map] at ha
   obtain ⟨c, hc, rfl⟩ := ha
   simp at hb
   exact hm2 c hc (by rw [e, hb])
  ·by_cases hj : j < q.length
   ·rw [List.getElem?_append_left hj] at he
    exact h.dep j e he
   ·rw [List.getElem?_append_right (by omega)] at he
    have : j - q.length = 0 := by
     have := (List.getElem?_eq_some_iff.1 he).1
     simp at this
     omega
    rw [this] at he
    simp at he
    subst he
    exact ⟨h0, by show v ≤ _; omega⟩
theorem putD_len (x : List Int) (v : Int) (q : List (List Int × Int)) : q.length ≤ (putD x v q).length := by
 unfold putD
 split
 ·exact Nat.le_refl _
 ·simp
theorem putD_keep {x : List Int} {v : Int} {q : List (List Int × Int)} {i : Nat} {e : List Int × Int} (h : q[i]? = some e) : (putD x v q)[i]? = some e := by
 unfold putD
 split
 ·exact h
 ·rw [List.getElem?_append_left (List.getElem?_eq_some_iff.1 h).1]; exact h
theorem putD_mem (x : List Int) (v : Int) (q : List (List Int × Int)) : x ∈ (putD x v q).map (·.1) := by
 unfold putD
 split
 ·rename_i h
  obtain ⟨e, he, e1⟩ := List.any_eq_true.1 h
  exact List.mem_map.2 ⟨e, he, of_decide_eq_true e1⟩
 ·simp
theorem sIn_step (n : Nat) (p : List Int) (v : Int) (hp : isOrd n p) (h0 : 0 ≤ v) : ∀ (ls : List (List Int)) (q : List (List Int × Int)), (∀ l, l ∈ ls → okRungs n l) → GoodQ n q → v ≤ (q.length : Int) →
  GoodQ n (sIn p v ls q) ∧ q.length ≤ (sIn p v ls q).length ∧ (∀ (i : Nat) (e : List Int × Int), q[i]? = some e → (sIn p v ls q)[i]? = some e) ∧ ∀ l, l ∈ ls → topL p l ∈ (sIn p v ls q).map (·.1)
 | [], q, _, hg, _ => ⟨hg, Nat.le_refl _, fun _ _ h => h, fun l hl => by cases hl⟩
 | l :: ls, q, hls, hg, hv => by
  have hl := putD_len (topL p l) v q
  obtain ⟨a, b, c, d⟩ := sIn_step n p v hp h0 ls (putD (topL p l) v q) (fun l hl => hls l (by simp [hl])) (hg.put (topL_isOrd l hp (hls l (by simp))) h0 hv) (by omega)
  refine ⟨a, Nat.le_trans hl b, fun i e h => c i e (putD_keep h), fun l' hl' => ?_⟩
  rcases List.mem_cons.1 hl' with rfl | h
  ·have := putD_mem (topL p l') v q
   rw [List.mem_map] at this
   obtain ⟨e, he, e1⟩ := this
   obtain ⟨i, hi⟩ := List.getElem?_of_mem he
   exact List.mem_map.2 ⟨e, List.mem_of_getElem? (c i e hi), e1⟩
  ·exact d l' h
theorem sF_none {ls : List (List Int)} {f i : Nat} {q : List (List Int × Int)} (h : q[i]? = none) : sF ls (f + 1) i q = q := by
 unfold sF
 rw [h]
theorem sF_some {ls : List (List Int)} {f i : Nat} {q : List (List Int × Int)} {e : List Int × Int} (h : q[i]? = some e) : sF ls (f + 1) i q = sF ls f (i + 1) (sIn e.1 (e.2 + 1) ls q) := by
 rw [sF, h]
theorem sIn_of (n : Nat) (hn : n ≤ 6) {i : Nat} {q : List (List Int × Int)} {a : List Int × Int} (h : GoodQ n q) (e : q[i]? = some a) :
  GoodQ n (sIn a.1 (a.2 + 1) (rowsL n) q) ∧ q.length ≤ (sIn a.1 (a.2 + 1) (rowsL n) q).length ∧ (∀ (i : Nat) (e : List Int × Int), q[i]? = some e → (sIn a.1 (a.2 + 1) (rowsL n) q)[i]? = some e) ∧ ∀ l, l ∈ rowsL n → topL a.1 l ∈ (sIn a.1 (a.2 + 1) (rowsL n) q).map (·.1) := by
 have hi := (List.getElem?_eq_some_iff.1 e).1
 have hd := h.dep i a e
 exact sIn_step n a.1 (a.2 + 1) (h.ord a (List.mem_of_getElem? e)) (by omega) _ q (fun l hl => (rows_ok hn hl).2) h (by omega)
theorem sF_good (n : Nat) (hn : n ≤ 6) : ∀ (f i : Nat) (q : List (List Int × Int)), GoodQ n q → GoodQ n (sF (rowsL n) f i q)
 | 0, _, _, h => h
 | f + 1, i, q, h => by
  cases e : q[i]? with
  | none => rw [sF_none e]; exact h
  | some a => rw [sF_some e]; exact sF_good n hn f (i + 1) _ (sIn_of n hn h e).1
theorem sF_keep (n : Nat) (hn : n ≤ 6) : ∀ (f i : Nat) (q : List (List Int × Int)), GoodQ n q → ∀ (j : Nat) (e : List Int × Int), q[j]? = some e → (sF (rowsL n) f i q)[j]? = some e
 | 0, _, _, _, _, _, h => h
 | f + 1, i, q, hg, j, b, h => by
  cases e : q[i]? with
  | none => rw [sF_none e]; exact h
  | some a => rw [sF_some e]; exact sF_keep n hn f (i + 1) _ (sIn_of n hn hg e).1 j b ((sIn_of n hn hg e).2.2.1 j b h)
theorem sF_closed (n : Nat) (hn : n ≤ 6) : ∀ (f i : Nat) (q : List (List Int × Int)), i + f = 1001 → GoodQ n q → (∀ (j : Nat) (e : List Int × Int), j < i → q[j]? = some e → ∀ l, l ∈ rowsL n → topL e.1 l ∈ q.map (·.1)) →
  ∀ e, e ∈ sF (rowsL n) f i q → ∀ l, l ∈ rowsL n → topL e.1 l ∈ (sF (rowsL n) f i q).map (·.1)
 | 0, i, q, hf, hg, hc => fun e he l hl2 => by
  have hl := hg.le hn
  have he' : e ∈ q := he
  obtain ⟨j, hj⟩ := List.getElem?_of_mem he'
  have := (List.getElem?_eq_some_iff.1 hj).1
  exact hc j e (by omega) hj l hl2
 | f + 1, i, q, hf, hg, hc => by
  cases e : q[i]? with
  | none =>
   rw [sF_none e]
   intro e' he l hl2
   obtain ⟨j, hj⟩ := List.getElem?_of_mem he
   have h1 := (List.getElem?_eq_some_iff.1 hj).1
   have h4 := List.getElem?_eq_none_iff.1 e
   exact hc j e' (by omega) hj l hl2
  | some a =>
   rw [sF_some e]
   obtain ⟨g1, g2, g3, g4⟩ := sIn_of n hn hg e
   refine sF_closed n hn f (i + 1) _ (by omega) g1 (fun j b hj hb l hl => ?_)
   have hil := (List.getElem?_eq_some_iff.1 e).1
   have hb2 : q[j]? = some b := by
    have h5 := g3 j q[j] (List.getElem?_eq_getElem (by omega))
    rw [hb] at h5
    rw [List.getElem?_eq_getElem (by omega)]
    exact h5.symm
   by_cases hji : j < i
   ·have := hc j b hji hb2 l hl
    rw [List.mem_map] at this
    obtain ⟨c, hc1, hc2⟩ := this
    obtain ⟨m, hm⟩ := List.getElem?_of_mem hc1
    exact List.mem_map.2 ⟨c, List.mem_of_getElem? (g3 m c hm), hc2⟩
   ·have : j = i := by omega
    subst this
    rw [e] at hb2
    injection hb2 with hb2
    subst hb2
    exact g4 l hl
theorem start_good (n : Nat) : GoodQ n [(idL n, 0)] := by
 refine ⟨fun e he => ?_, by simp, fun j e he => ?_⟩
 ·rw [List.mem_singleton] at he
  rw [he]
  exact idL_isOrd n
 ·have h1 := (List.getElem?_eq_some_iff.1 he).1
  have h2 : j = 0 := by simp at h1; omega
  subst h2
  simp at he
  subst he
  simp
theorem depQ_good (n : Nat) (hn : n ≤ 6) : GoodQ n (depQ n) := sF_good n hn _ _ _ (start_good n)
/-- every order is met -/
theorem depQ_all (n : Nat) (hn : n ≤ 6) {p : List Int} (hp : isOrd n p) : p ∈ (depQ n).map (·.1) := by
 refine ord_closed (S := fun p => p ∈ (depQ n).map (·.1)) ?_ ?_ hp
 ·exact List.mem_map.2 ⟨_, List.mem_of_getElem? (sF_keep n hn 1001 0 _ (start_good n) 0 _ rfl), rfl⟩
 ·intro q hq r hr
  rw [List.mem_map] at hq
  obtain ⟨e, he, rfl⟩ := hq
  exact sF_closed n hn 1001 0 _ (by omega) (start_good n) (fun j e hj => by omega) e he _ (rows_one hn hr)
theorem orderKey_ev (p : List Int) (hp : p.length ≤ 1000) : Ev (fun k => impl_orderKey.f k p) (keyB p) := by
 unfold impl_orderKey.f keyB
 have key := Ev.inv (σ := List Int) (L := fun k j s => impl_orderKey.l0 k s p (p.length : Int) (j : Int)) (r := strOfNums (p.map fun x => (wrap64 (48 + x)) % 256)) (n := p.length)
  (Inv := fun j s => s = (p.take j).map fun x => (wrap64 (48 + x)) % 256)
  (fun s hs => by
   subst hs
   refine Ev.succ (Ev.ret fun k => ?_)
   rw [impl_orderKey.l0, if_neg (by omega), List.take_length])
  (fun j s hj hs ih => by
   subst hs
   refine Ev.succ ?_
   have h1 : (j : Int) < (p.length : Int) := by omega
   have h0 : (0 : Int) ≤ (j : Int) := by omega
   have h3 : ((p.take j).map fun x => (wrap64 (48 + x)) % 256).length < 140737488355328 := by rw [List.length_map, List.length_take]; omega
   simp only [impl_orderKey.l0, h1, h0, h3, if_true, rd_nat p j hj, wrap_nat j _ hj (by omega)]
   refine ih _ ?_
   rw [take_snoc p j hj, List.map_append]
   rfl)
 exact key 0 [] (Nat.zero_le _) rfl
theorem isOrd_ok {n : Nat} (hn : n ≤ 6) {p : List Int} (hp : isOrd n p) : ordOk p = true := by
 unfold ordOk
 rw [Bool.and_eq_true]
 refine ⟨decide_eq_true (by have := hp.1; omega), List.all_eq_true.2 fun x hx => decide_eq_true ?_⟩
 have := hp.2.2 x hx
 omega
theorem keyOk_ev {n : Nat} (hn : n ≤ 6) {p : List Int} (hp : isOrd n p) : ∃ K, ∀ k, K ≤ k → keyOk k p = true := by
 obtain ⟨K, hK⟩ := orderKey_ev p (by have := hp.1; omega)
 refine ⟨K, fun k hk => ?_⟩
 unfold keyOk
 rw [isOrd_ok hn hp, Bool.true_and]
 exact decide_eq_true (hK k hk)
theorem all_ev {α : Type} {P : Nat → α → Prop} : ∀ (l : List α), (∀ x, x ∈ l → ∃ K, ∀ k, K ≤ k → P k x) → ∃ K, ∀ k, K ≤ k → ∀ x, x ∈ l → P k x
 | [], _ => ⟨0, fun _ _ x hx => by cases hx⟩
 | a :: l, h => by
  obtain ⟨K1, h1⟩ := h a (by simp)
  obtain ⟨K2, h2⟩ := all_ev l (fun x hx => h x (by simp [hx]))
  refine ⟨max K1 K2, fun k hk x hx => ?_⟩
  rcases List.mem_cons.1 hx with rfl | hx
  ·exact h1 k (by omega)
  ·exact h2 k (by omega) x hx
/-- rounds enough for each order and each level -/
def Ready (n k : Nat) : Prop := ∀ p, p ∈ allO n → keyOk k p = true ∧ ∀ l, l ∈ rowsL n → impl_laid.f k p l = some (topL p l)
theorem ready_ev (n : Nat) (hn : n ≤ 6) : ∃ K, ∀ k, K ≤ k → Ready n k := by
 refine all_ev (P := fun k p => keyOk k p = true ∧ ∀ l, l ∈ rowsL n → impl_laid.f k p l = some (topL p l)) (allO n) (fun p hp => ?_)
 have ho := (allO_mem n p).1 hp
 obtain ⟨K1, h1⟩ := keyOk_ev hn ho
 obtain ⟨K2, h2⟩ := all_ev (P := fun k l => impl_laid.f k p l = some (topL p l)) (rowsL n) (fun l hl => by
  have hr := rows_ok hn hl
  exact laid_ev p l (by have := ho.1; omega) (by omega) (by rw [ho.1]; exact hr.2))
 exact ⟨max K1 K2, fun k hk => ⟨h1 k (by omega), h2 k (by omega)⟩⟩
theorem depIn_f (n : Nat) (hn : n ≤ 6) (k : Nat) (hr : Ready n k) (p : List Int) (v : Int) (hp : isOrd n p) (h0 : 0 ≤ v) : ∀ (ls : List (List Int)) (q : List (List Int × Int)), (∀ l, l ∈ ls → l ∈ rowsL n) → GoodQ n q → v ≤ (q.length : Int) → depIn k p v ls q = some (sIn p v ls q)
 | [], q, _, _, _ => rfl
 | l :: ls, q, hls, hg, hv => by
  have hl := hls l (by simp)
  have hx := topL_isOrd l hp (rows_ok hn hl).2
  have e1 := (hr p ((allO_mem n p).2 hp)).2 l hl
  have e2 := (hr _ ((allO_mem n _).2 hx)).1
  have e3 := hg.le hn
  unfold depIn
  rw [e1, Option.bind_some, if_pos ⟨e2, by omega⟩]
  exact depIn_f n hn k hr p v hp h0 ls _ (fun l hl => hls l (by simp [hl])) (hg.put hx h0 hv) (by have := putD_len (topL p l) v q; omega)
theorem depL_f (n : Nat) (hn : n ≤ 6) (k : Nat) (hr : Ready n k) : ∀ (f i : Nat) (q : List (List Int × Int)) (g : Nat), i + f = 1001 → f < g → GoodQ n q → depL k (rowsL n) g i q = some (sF (rowsL n) f i q)
 | 0, i, q, g + 1, hf, _, hg => by
  have hl := hg.le hn
  unfold depL
  rw [List.getElem?_eq_none (by omega)]
  rfl
 | f + 1, i, q, g + 1, hf, hfg, hg => by
  unfold depL
  cases e : q[i]? with
  | none => rw [sF_none e]
  | some a =>
   have hl := hg.le hn
   have hi := (List.getElem?_eq_some_iff.1 e).1
   have hd := hg.dep i a e
   have ho := hg.ord a (List.mem_of_getElem? e)
   have e1 : wrap64 (a.2 + 1) = a.2 + 1 := wrap_in (by omega) (by omega)
   simp only
   rw [if_pos ⟨(hr _ ((allO_mem n _).2 ho)).1, by omega⟩, e1, depIn_f n hn k hr a.1 (a.2 + 1) ho (by omega) _ q (fun _ h => h) hg (by omega), Option.bind_some, sF_some e]
   exact depL_f n hn k hr f (i + 1) _ g (by omega) (by omega) (sIn_of n hn hg e).1
theorem identity_ev (n : Nat) (hn : n ≤ 1000) : Ev (fun k => impl_identity.f k (n : Int)) (idL n) := by
 unfold impl_identity.f
 have key := Ev.inv (σ := List Int) (L := fun k j s => impl_identity.l0 k s (n : Int) (j : Int)) (r := idL n) (n := n)
  (Inv := fun j s => s = idL j)
  (fun s hs => by
   subst hs
   refine Ev.succ (Ev.ret fun k => ?_)
   rw [impl_identity.l0, if_neg (by omega)])
  (fun j s hj hs ih => by
   subst hs
   refine Ev.succ ?_
   have h1 : (j : Int) < (n : Int) := by omega
   have h3 : (idL j).length < 17592186044416 := by simp [idL]; omega
   simp only [impl_identity.l0, h1, h3, if_true, wrap_nat j n hj (by omega)]
   refine ih _ ?_
   unfold idL
   rw [List.range_succ, List.map_append]
   rfl)
 exact key 0 [] (Nat.zero_le _) rfl
theorem depths_ev (n : Nat) (hn1 : 2 ≤ n) (hn : n ≤ 6) : Ev (fun k => impl_depths.f k (n : Int)) (depQ n) := by
 obtain ⟨K1, h1⟩ := identity_ev n (by omega)
 obtain ⟨K2, h2⟩ := ready_ev n hn
 refine ⟨max (max K1 K2) 1002, fun k hk => ?_⟩
 have e1 : impl_identity.f k (n : Int) = some (idL n) := h1 k (by omega)
 show impl_depths.f k (n : Int) = _
 unfold impl_depths.f
 rw [if_pos (by omega), e1, Option.bind_some, if_pos (h2 k (by omega) _ ((allO_mem n _).2 (idL_isOrd n))).1]
 exact depL_f n hn k (h2 k (by omega)) 1001 0 _ k (by omega) (by omega) (start_good n)
def lookF (q : List (List Int × Int)) (p : List Int) : Int := match q.find? (fun e => decide (e.1 = p)) with | some e => e.2 | none => -1
def farQ (n : Nat) (q : List (List Int × Int)) : List Int := (allO n).map (lookF q)
def rkQ (q : List (List Int × Int)) : List Int := q.map fun e => ((rankL e.1 : Nat) : Int)
theorem find_mem {n : Nat} {q : List (List Int × Int)} (hg : GoodQ n q) {e : List Int × Int} (he : e ∈ q) : q.find? (fun a => decide (a.1 = e.1)) = some e := by
 have nd := hg.nd
 clear hg
 induction q with
 | nil => cases he
 | cons a q ih =>
  rw [List.map_cons, List.nodup_cons] at nd
  rcases List.mem_cons.1 he with rfl | h
  ·rw [List.find?_cons_of_pos (by simp)]
  ·rw [List.find?_cons_of_neg, ih h nd.2]
   intro e1
   have e2 : a.1 = e.1 := of_decide_eq_true e1
   exact nd.1 (List.mem_map.2 ⟨e, h, e2.symm⟩)
theorem lookF_mem {n : Nat} {q : List (List Int × Int)} (hg : GoodQ n q) {e : List Int × Int} (he : e ∈ q) : lookF q e.1 = e.2 := by
 unfold lookF
 rw [find_mem hg he]
theorem lookD_mem {n : Nat} {q : List (List Int × Int)} (hg : GoodQ n q) {e : List Int × Int} (he : e ∈ q) : lookD q e.1 = e.2 := by
 unfold lookD
 rw [find_mem hg he]
theorem lookF_none {q : List (List Int × Int)} {p : List Int} (h : q.any (fun e => decide (e.1 = p)) = false) : lookF q p = -1 := by
 unfold lookF
 have : q.find? (fun e => decide (e.1 = p)) = none := by
  rw [List.find?_eq_none]
  rw [List.any_eq_false] at h
  exact h
 rw [this]
theorem lookF_neg {n : Nat} {q : List (List Int × Int)} (hg : GoodQ n q) (p : List Int) : lookF q p < 0 ↔ q.any (fun e => decide (e.1 = p)) = false := by
 constructor
 ·intro h
  rw [← Bool.not_eq_true, List.any_eq_true]
  rintro ⟨e, he, e1⟩
  have e2 : e.1 = p := of_decide_eq_true e1
  rw [← e2, lookF_mem hg he] at h
  obtain ⟨j, hj⟩ := List.getElem?_of_mem he
  have := (hg.dep j e hj).1
  omega
 ·intro h
  rw [lookF_none h]
  decide
theorem far_at {n : Nat} (hn : n ≤ 6) (q : List (List Int × Int)) {p : List Int} (hp : isOrd n p) : rd (farQ n q) ((rankL p : Nat) : Int) = lookF q p := by
 unfold rd farQ
 rw [List.getD_eq_getElem?_getD, List.getElem?_map]
 show (Option.map (lookF q) (allO n)[rankL p]?).getD 0 = _
 rw [allO_at hn hp]
 rfl
theorem far_put {n : Nat} (hn : n ≤ 6) (q : List (List Int × Int)) {x : List Int} (hx : isOrd n x) (v : Int) (hm : q.any (fun e => decide (e.1 = x)) = false) : farQ n (q ++ [(x, v)]) = (farQ n q).set (rankL x) v := by
 unfold farQ
 apply List.ext_getElem (by simp)
 intro j h1 h2
 rw [List.getElem_set, List.getElem_map, List.getElem_map]
 have hj : j < (allO n).length := by simpa using h1
 by_cases e : rankL x = j
 ·rw [if_pos e]
  have h3 := allO_at hn hx
  rw [e, List.getElem?_eq_getElem hj] at h3
  injection h3 with h3
  rw [h3]
  unfold lookF
  have h4 : q.find? (fun e => decide (e.1 = x)) = none := by
   rw [List.find?_eq_none]
   rw [List.any_eq_false] at hm
   exact hm
  rw [List.find?_append, h4]
  simp
 ·rw [if_neg e]
  have h3 : (allO n)[j] ≠ x := by
   intro h3
   have := allO_rank hn hj
   rw [h3] at this
   exact e this
  unfold lookF
  rw [List.find?_append]
  cases q.find? (fun e => decide (e.1 = (allO n)[j])) with
  | some a => rfl
  | none => simp [show ¬ x = (allO n)[j] from fun e2 => h3 e2.symm]
theorem rows_lva (n : Nat) (hn : n ≤ 6) : rowsL n = lva (n - 1) 4 0 := AllLevels_list n (by omega)
theorem rowsL_le (n : Nat) (hn : n ≤ 6) : (rowsL n).length ≤ 1000 := of_decide_eq_true (List.all_eq_true.1 rowsL_small n (by simp; omega))
theorem lvFar_l2 (n : Nat) (hn : n ≤ 6) (i : Nat) (a : List Int × Int) (R : List Int) (d : Nat) : ∀ (j : Nat) (q : List (List Int × Int)), j + d = (rowsL n).length → GoodQ n q → q[i]? = some a →
  Ev (fun k => spec_lvFar.l1 k (allO n) (farQ n (sIn a.1 (a.2 + 1) ((rowsL n).drop j) q)) (rkQ (sIn a.1 (a.2 + 1) ((rowsL n).drop j) q)) (rowsL n) (wrap64 ((i : Int) + 1))) R →
  Ev (fun k => spec_lvFar.l2 k (allO n) (farQ n q) (rkQ q) (rowsL n) (i : Int) (rowsL n) ((rowsL n).length : Int) (j : Int)) R := by
 have hll := rowsL_le n hn
 induction d with
 | zero =>
  intro j q hj _ _ h
  refine Ev.succ ?_
  have g1 : ¬ (j : Int) < ((rowsL n).length : Int) := by omega
  simp only [spec_lvFar.l2, g1, if_false]
  rw [List.drop_eq_nil_of_le (by omega)] at h
  exact h
 | succ d ih =>
  intro j q hj hg ha h
  have hjl : j < (rowsL n).length := by omega
  have hl := rows_ok hn (List.getElem_mem hjl)
  have hi := (List.getElem?_eq_some_iff.1 ha).1
  have ho := hg.ord a (List.mem_of_getElem? ha)
  have hd := hg.dep i a ha
  have hq := hg.le hn
  have hx := topL_isOrd (rowsL n)[j] ho hl.2
  have hal := allO_le hn
  have hr1 := rank_lt hn ho
  have hr2 := rank_lt hn hx
  have hfl : ∀ q, (farQ n q).length = (allO n).length := fun q => by simp [farQ]
  have hrl : (rkQ q).length = q.length := by simp [rkQ]
  have hra : rd (rkQ q) (i : Int) = ((rankL a.1 : Nat) : Int) := by
   rw [rd_nat (rkQ q) i (by omega)]
   unfold rkQ
   rw [List.getElem_map]
   have : q[i] = a := by rw [List.getElem?_eq_getElem hi] at ha; injection ha
   rw [this]
  have hre : rd_L2 (allO n) ((rankL a.1 : Nat) : Int) = a.1 := by
   rw [rd_rows _ _ hr1]
   have := allO_at hn ho
   rw [List.getElem?_eq_getElem hr1] at this
   injection this
  refine Ev.succ ?_
  have g1 : (j : Int) < ((rowsL n).length : Int) := by omega
  have g2 : (0 : Int) ≤ (j : Int) := by omega
  have g3 : (0 : Int) ≤ (i : Int) := by omega
  have g4 : (i : Int) < ((rkQ q).length : Int) := by omega
  have g5 : (0 : Int) ≤ ((rankL a.1 : Nat) : Int) := by omega
  have g6 : ((rankL a.1 : Nat) : Int) < ((allO n).length : Int) := by omega
  simp only [spec_lvFar.l2, g1, g2, g3, g4, if_true, hra, g5, g6, hre, rd_rows (rowsL n) j hjl, wrap_nat j _ hjl (by omega)]
  refine Ev.bind (lvTop_ev a.1 (rowsL n)[j] (by have := ho.1; omega) (by omega) (by rw [ho.1]; exact hl.2)) ?_
  refine Ev.bind (alRank_ev _ (by have := hx.1; omega)) ?_
  have g7 : (0 : Int) ≤ ((rankL (topL a.1 (rowsL n)[j]) : Nat) : Int) := by omega
  have g8 : ((rankL (topL a.1 (rowsL n)[j]) : Nat) : Int) < ((farQ n q).length : Int) := by rw [hfl]; omega
  have g9 : ((rankL a.1 : Nat) : Int) < ((farQ n q).length : Int) := by rw [hfl]; omega
  have g10 : (rkQ q).length < 17592186044416 := by omega
  simp only [g7, g8, g9, g10, if_true, far_at hn q hx, far_at hn q ho, lookF_mem hg (List.mem_of_getElem? ha)]
  rw [List.drop_eq_getElem_cons hjl] at h
  unfold sIn at h
  rw [List.foldl_cons] at h
  have e1 : wrap64 (a.2 + 1) = a.2 + 1 := wrap_in (by omega) (by omega)
  cases hm : q.any (fun e => decide (e.1 = topL a.1 (rowsL n)[j])) with
  | false =>
   have hlt := (lookF_neg hg _).2 hm
   simp only [hlt, if_true, e1]
   have e2 : putD (topL a.1 (rowsL n)[j]) (a.2 + 1) q = q ++ [(topL a.1 (rowsL n)[j], a.2 + 1)] := by unfold putD; rw [hm]; rfl
   rw [e2] at h
   have h3 := ih (j + 1) (q ++ [(topL a.1 (rowsL n)[j], a.2 + 1)]) (by omega) (by rw [← e2]; exact hg.put hx (by omega) (by omega)) (by rw [List.getElem?_append_left hi]; exact ha) h
   rw [far_put hn q hx (a.2 + 1) hm] at h3
   have e3 : rkQ (q ++ [(topL a.1 (rowsL n)[j], a.2 + 1)]) = rkQ q ++ [((rankL (topL a.1 (rowsL n)[j]) : Nat) : Int)] := by simp [rkQ]
   rw [e3] at h3
   exact h3
  | true =>
   have hnl : ¬ lookF q (topL a.1 (rowsL n)[j]) < 0 := fun h2 => by rw [(lookF_neg hg _).1 h2] at hm; cases hm
   simp only [hnl, if_false]
   have e2 : putD (topL a.1 (rowsL n)[j]) (a.2 + 1) q = q := by unfold putD; rw [hm]; rfl
   rw [e2] at h
   exact ih (j + 1) q (by omega) hg ha h
theorem lvFar_l1 (n : Nat) (hn : n ≤ 6) : ∀ (f i : Nat) (q : List (List Int × Int)), i + f = 1001 → GoodQ n q → Ev (fun k => spec_lvFar.l1 k (allO n) (farQ n q) (rkQ q) (rowsL n) (i : Int)) (farQ n (sF (rowsL n) f i q))
 | 0, i, q, hf, hg => by
  have hl := hg.le hn
  have hrl : (rkQ q).length = q.length := by simp [rkQ]
  refine Ev.succ (Ev.ret fun k => ?_)
  rw [spec_lvFar.l1, if_neg (by omega)]
  rfl
 | f + 1, i, q, hf, hg => by
  have hl := hg.le hn
  have hrl : (rkQ q).length = q.length := by simp [rkQ]
  cases e : q[i]? with
  | none =>
   have h1 := List.getElem?_eq_none_iff.1 e
   rw [sF_none e]
   refine Ev.succ (Ev.ret fun k => ?_)
   rw [spec_lvFar.l1, if_neg (by omega)]
  | some a =>
   have hi := (List.getElem?_eq_some_iff.1 e).1
   rw [sF_some e]
   refine Ev.succ ?_
   have g1 : (i : Int) < ((rkQ q).length : Int) := by omega
   simp only [spec_lvFar.l1, g1, if_true]
   refine lvFar_l2 n hn i a _ (rowsL n).length 0 q (by omega) hg e ?_
   rw [List.drop_zero, wrap_nat i 2000 (by omega) (by omega)]
   exact lvFar_l1 n hn f (i + 1) _ (by omega) (sIn_of n hn hg e).1
theorem lvFar_l0 (n : Nat) (hn1 : 2 ≤ n) (hn : n ≤ 6) (d : Nat) : ∀ j, j + d = (allO n).length → Ev (fun k => spec_lvFar.l0 k (n : Int) (allO n) (List.replicate j (-1) ++ List.replicate d 0) ((allO n).length : Int) (j : Int)) (farQ n (depQ n)) := by
 have hal := allO_le hn
 induction d with
 | zero =>
  intro j hj
  obtain ⟨_, p, ps, ep, _⟩ := ordL_head n n hn (Nat.le_refl _)
  have ep : allO n = p :: ps := ep
  refine Ev.succ ?_
  have g1 : ¬ (j : Int) < ((allO n).length : Int) := by omega
  have g2 : 0 < ((List.replicate j (-1 : Int) ++ List.replicate 0 0).length : Int) := by
   rw [ep] at hj
   simp only [List.length_append, List.length_replicate, List.length_cons] at hj ⊢
   omega
  simp only [spec_lvFar.l0, g1, g2, if_true, if_false]
  refine Ev.bind (lvAll_ev n hn1 (by omega) 4 0 (by omega) (by omega) (by omega)) ?_
  rw [← rows_lva n hn]
  have e0 : rankL (idL n) = 0 := by
   have : (List.range 7).all (fun n => rankL (idL n) == 0) = true := by decide +kernel
   have := List.all_eq_true.1 this n (by simp; omega)
   exact eq_of_beq this
  have e1 : (List.replicate j (-1 : Int) ++ List.replicate 0 0).set (0 : Int).toNat 0 = farQ n [(idL n, 0)] := by
   have h := far_put hn [] (idL_isOrd n) 0 rfl
   rw [List.nil_append, e0] at h
   rw [h]
   have h2 : farQ n [] = List.replicate j (-1) := by
    unfold farQ
    rw [List.eq_replicate_iff]
    refine ⟨by simp; omega, fun b hb => ?_⟩
    rw [List.mem_map] at hb
    obtain ⟨x, _, rfl⟩ := hb
    rfl
   rw [h2]
   simp
  have e2 : ([0] : List Int) = rkQ [(idL n, 0)] := by simp [rkQ, e0]
  rw [e1, e2]
  exact lvFar_l1 n hn 1001 0 _ (by omega) (start_good n)
 | succ d ih =>
  intro j hj
  refine Ev.succ ?_
  have g1 : (j : Int) < ((allO n).length : Int) := by omega
  have g2 : (0 : Int) ≤ (j : Int) := by omega
  have g3 : (j : Int) < ((List.replicate j (-1 : Int) ++ List.replicate (d + 1) 0).length : Int) := by simp; omega
  simp only [spec_lvFar.l0, g1, g2, g3, if_true, wrap_nat j (allO n).length (by omega) (by omega)]
  refine Ev.congr (fun k => ?_) (ih (j + 1) (by omega))
  congr 1
  rw [show ((j : Int)).toNat = j from rfl, List.set_append_right _ _ (by simp), List.length_replicate, Nat.sub_self, List.replicate_succ, List.set_cons_zero, List.replicate_succ', List.append_assoc]
  rfl
theorem lvFar_ev (n : Nat) (hn1 : 2 ≤ n) (hn : n ≤ 6) : Ev (fun k => spec_lvFar.f k (n : Int)) (farQ n (depQ n)) := by
 unfold spec_lvFar.f
 refine Ev.bind (alOrders_ev n hn) ?_
 have hal := allO_le hn
 have g1 : (0 : Int) ≤ ((allO n).length : Int) := by omega
 have g2 : (((allO n).length : Int)).toNat ≤ 35184372088832 := by omega
 simp only [g1, g2, if_true, Option.bind_some, List.length_replicate]
 have := lvFar_l0 n hn1 hn (allO n).length 0 (by omega)
 rw [List.replicate_zero, List.nil_append] at this
 exact this
/-- both agree at each order -/
theorem look_both (n : Nat) (hn : n ≤ 6) {p : List Int} (hp : isOrd n p) : lookD (depQ n) p = lookF (depQ n) p := by
 have h := depQ_all n hn hp
 rw [List.mem_map] at h
 obtain ⟨e, he, rfl⟩ := h
 rw [lookD_mem (depQ_good n hn) he, lookF_mem (depQ_good n hn) he]
theorem btw_f (a b c : Int) : impl_between.f a b c = some (inB a b c) := by
 unfold impl_between.f inB
 split
 ·rename_i h; simp [h]
 ·rename_i h; simp; omega
theorem Index_ev (l : List Int) (x : Int) (hn : l.length ≤ 9223372036854775807) : ∃ r, Ev (fun k => slices_Index_int_int.f k l x) r ∧ (decide (r ≥ 0)) = decide (x ∈ l) := by
 have key : ∀ d j, j ≤ l.length → l.length - j = d → ∃ r, Ev (fun k => slices_Index_int_int.l0 k l x (l.length : Int) (j : Int)) r ∧ (decide (r ≥ 0)) = decide (x ∈ l.drop j) := by
  intro d
  induction d with
  | zero =>
   intro j h1 hd
   refine ⟨-1, Ev.succ (Ev.ret fun k => ?_), ?_⟩
   ·rw [slices_Index_int_int.l0, if_neg (by omega)]
   ·rw [List.drop_eq_nil_of_le (by omega)]; simp
  | succ d ih =>
   intro j h1 hd
   have hj : j < l.length := by omega
   have h1 : (j : Int) < (l.length : Int) := by omega
   have h0 : (0 : Int) ≤ (j : Int) := by omega
   rw [List.drop_eq_getElem_cons hj]
   by_cases h : x = l[j]
   ·refine ⟨j, Ev.succ (Ev.ret fun k => ?_), ?_⟩
    ·rw [slices_Index_int_int.l0, if_pos h1, if_pos h0, if_pos h1, rd_nat l j hj, if_pos h]
    ·rw [decide_eq_decide, List.mem_cons]; exact ⟨fun _ => .inl h, fun _ => by omega⟩
   ·obtain ⟨r, hr, e⟩ := ih (j + 1) (by omega) (by omega)
    refine ⟨r, Ev.succ ?_, ?_⟩
    ·simp only [slices_Index_int_int.l0, h1, h0, if_true, rd_nat l j hj, h, if_false, wrap_nat j _ hj hn]
     exact hr
    ·rw [e, decide_eq_decide, List.mem_cons]; exact ⟨fun m => .inr m, fun m => m.resolve_left h⟩
 obtain ⟨r, hr, e⟩ := key l.length 0 (Nat.zero_le _) (by omega)
 rw [List.drop_zero] at e
 exact ⟨r, hr, e⟩
theorem Contains_ev (l : List Int) (x : Int) (hn : l.length ≤ 9223372036854775807) : Ev (fun k => slices_Contains_int_int.f k l x) (decide (x ∈ l)) := by
 obtain ⟨r, hr, e⟩ := Index_ev l x hn
 unfold slices_Contains_int_int.f
 exact Ev.bind hr (Ev.eq (Ev.now _) e)
theorem isOrder_ev (p : List Int) : Ev (fun k => impl_isOrder.f k p) (orderB p) := by
 unfold impl_isOrder.f orderB
 simp only [btw_f, Option.bind_some]
 refine Ev.iteb (fun h => ?_) (fun h => ?_)
 ·rw [h, Bool.true_and]
  have hn : 1 ≤ (p.length : Int) ∧ (p.length : Int) ≤ 8 := by unfold inB at h; simpa using h
  have key := Ev.upto (L := fun k j (_ : Unit) => impl_isOrder.l0 k p p (p.length : Int) (j : Int)) (R := fun j _ => (List.range' j (p.length - j)).all (orderAt p)) (n := p.length)
   (fun _ => by
    refine Ev.succ (Ev.ret fun k => ?_)
    rw [impl_isOrder.l0, if_neg (by omega), Nat.sub_self]; rfl)
   (fun j _ hj ih => by
    refine Ev.succ ?_
    have h1 : (j : Int) < (p.length : Int) := by omega
    have h0 : (0 : Int) ≤ (j : Int) := by omega
    have h2 : (j : Int) ≤ (p.length : Int) := by omega
    have e : p.length - j = (p.length - (j + 1)) + 1 := by omega
    simp only [impl_isOrder.l0, h1, h0, h2, if_true, btw_f, Option.bind_some, wrap_nat j p.length hj (by omega), nat_toNat]
    rw [e, List.range'_succ, List.all_cons, orderAt]
    refine Ev.iteb (fun h => ?_) (fun h => ?_)
    ·rw [h, Bool.true_and]
     refine Ev.bind (Contains_ev _ _ (by rw [List.length_take]; omega)) ?_
     refine Ev.iteb (fun h => ?_) (fun h => ?_)
     ·rw [h]; exact Ev.now _
     ·rw [h]; exact ih ()
    ·rw [h]; exact Ev.now _)
  exact key 0 () (Nat.zero_le _)
 ·rw [h]; exact Ev.now _
theorem laOrder_ev (p : List Int) : Ev (fun k => spec_laOrder.f k p) (orderB p) := by
 unfold spec_laOrder.f orderB
 simp only [l1In_f, Option.bind_some]
 refine Ev.iteb (fun h => ?_) (fun h => ?_)
 ·rw [h, Bool.true_and]
  have hn := (inB_iff _ _ _).1 h
  have key := Ev.upto (L := fun k j (_ : Unit) => spec_laOrder.l0 k p p (p.length : Int) (j : Int)) (R := fun j _ => (List.range' j (p.length - j)).all (orderAt p)) (n := p.length)
   (fun _ => by
    refine Ev.succ (Ev.ret fun k => ?_)
    rw [spec_laOrder.l0, if_neg (by omega), Nat.sub_self]; rfl)
   (fun j _ hj ih => by
    refine Ev.succ ?_
    have h1 : (j : Int) < (p.length : Int) := by omega
    have h0 : (0 : Int) ≤ (j : Int) := by omega
    have h2 : (j : Int) ≤ (p.length : Int) := by omega
    have e : p.length - j = (p.length - (j + 1)) + 1 := by omega
    simp only [spec_laOrder.l0, h1, h0, h2, if_true, l1In_f, Option.bind_some, wrap_nat j p.length hj (by omega), nat_toNat]
    rw [e, List.range'_succ, List.all_cons, orderAt]
    refine Ev.iteb (fun h => ?_) (fun h => ?_)
    ·rw [h, Bool.true_and]
     refine Ev.bind (l1Has_ev _ _ (by rw [List.length_take]; omega)) ?_
     refine Ev.iteb (fun h => ?_) (fun h => ?_)
     ·rw [h]; exact Ev.now _
     ·rw [h]; exact ih ()
    ·rw [h]; exact Ev.now _)
  exact key 0 () (Nat.zero_le _)
 ·rw [h]; exact Ev.now _
theorem isMade_ev (p : List Int) : Ev (fun k => impl_isMade.f k p) (decide (orderB p = true ∧ 2 ≤ p.length ∧ p.length ≤ 6)) := by
 unfold impl_isMade.f
 refine Ev.bind (isOrder_ev p) ?_
 cases h : orderB p with
 | false => simpa using Ev.now _
 | true =>
  simp only [if_true, btw_f, Option.bind_some]
  refine Ev.ret fun k => ?_
  congr 1
  rw [Bool.eq_iff_iff, inB_iff, decide_eq_true_iff]
  simp only [true_and]
  omega
theorem lvMade_ev (p : List Int) : Ev (fun k => spec_lvMade.f k p) (decide (orderB p = true ∧ 2 ≤ p.length ∧ p.length ≤ 6)) := by
 unfold spec_lvMade.f
 refine Ev.bind (laOrder_ev p) ?_
 cases h : orderB p with
 | false => simpa using Ev.now _
 | true =>
  simp only [if_true, l1In_f, Option.bind_some]
  refine Ev.ret fun k => ?_
  congr 1
  rw [Bool.eq_iff_iff, inB_iff, decide_eq_true_iff]
  simp only [true_and]
  omega
def lvIn (D : List Int → Int) (p : List Int) (m : Nat) : List (List Int) → Option (List Int × List Int)
 | [] => none
 | l :: ls => if D (topL p l) = (m : Int) then some (l, topL p l) else lvIn D p m ls
def lvGo (D : List Int → Int) (ls : List (List Int)) : Nat → List Int → List (List Int) → List (List Int)
 | 0, _, out => out
 | m + 1, p, out => match lvIn D p m ls with
  | none => lvGo D ls m p out
  | some s => lvGo D ls m s.2 (out ++ [s.1])
def leastLv (p : List Int) : List (List Int) × Bool := if orderB p = true ∧ 2 ≤ p.length ∧ p.length ≤ 6 then (lvGo (lookF (depQ p.length)) (rowsL p.length) (lookF (depQ p.length) p).toNat p [], true) else ([], false)
theorem lvIn_in {D : List Int → Int} {p : List Int} {m : Nat} : ∀ {ls : List (List Int)} {s : List Int × List Int}, lvIn D p m ls = some s → s.1 ∈ ls ∧ s.2 = topL p s.1
 | l :: ls, s, h => by
  unfold lvIn at h
  by_cases c : D (topL p l) = (m : Int)
  ·rw [if_pos c] at h
   injection h with h
   subst h
   exact ⟨by simp, rfl⟩
  ·rw [if_neg c] at h
   obtain ⟨a, b⟩ := lvIn_in h
   exact ⟨by simp [a], b⟩
theorem lvIn_same {n : Nat} {D D' : List Int → Int} (hD : ∀ p, isOrd n p → D p = D' p) {p : List Int} (hp : isOrd n p) (m : Nat) : ∀ ls : List (List Int), (∀ l, l ∈ ls → okRungs n l) → lvIn D p m ls = lvIn D' p m ls
 | [], _ => rfl
 | l :: ls, h => by
  unfold lvIn
  rw [hD _ (topL_isOrd l hp (h l (by simp))), lvIn_same hD hp m ls (fun l hl => h l (by simp [hl]))]
theorem lvGo_same {n : Nat} {D D' : List Int → Int} (hD : ∀ p, isOrd n p → D p = D' p) {ls : List (List Int)} (hls : ∀ l, l ∈ ls → okRungs n l) : ∀ (m : Nat) (p : List Int) (out : List (List Int)), isOrd n p → lvGo D ls m p out = lvGo D' ls m p out
 | 0, _, _, _ => rfl
 | m + 1, p, out, hp => by
  unfold lvGo
  rw [lvIn_same hD hp m ls hls]
  cases e : lvIn D' p m ls with
  | none => exact lvGo_same hD hls m p out hp
  | some s =>
   obtain ⟨h1, h2⟩ := lvIn_in e
   exact lvGo_same hD hls m s.2 _ (by rw [h2]; exact topL_isOrd _ hp (hls _ h1))
theorem look_in {n : Nat} (hn : n ≤ 6) {p : List Int} (hp : isOrd n p) : 0 ≤ lookF (depQ n) p ∧ lookF (depQ n) p ≤ 1000 := by
 have hg := depQ_good n hn
 have h := depQ_all n hn hp
 rw [List.mem_map] at h
 obtain ⟨e, he, rfl⟩ := h
 rw [lookF_mem hg he]
 obtain ⟨j, hj⟩ := List.getElem?_of_mem he
 have h1 := hg.dep j e hj
 have h2 := hg.le hn
 have h3 := (List.getElem?_eq_some_iff.1 hj).1
 omega
theorem llIn_f (n : Nat) (hn : n ≤ 6) (k : Nat) (hr : Ready n k) (q : List (List Int × Int)) (p : List Int) (hp : isOrd n p) (m : Nat) (hm : m ≤ 1000) : ∀ ls : List (List Int), (∀ l, l ∈ ls → l ∈ rowsL n) → llIn k q p ((m + 1 : Nat) : Int) ls = some (lvIn (lookD q) p m ls)
 | [], _ => rfl
 | l :: ls, hls => by
  have hl := hls l (by simp)
  have hx := topL_isOrd l hp (rows_ok hn hl).2
  have e1 := (hr p ((allO_mem n p).2 hp)).2 l hl
  have e2 := (hr _ ((allO_mem n _).2 hx)).1
  have e3 : wrap64 (((m + 1 : Nat) : Int) - 1) = (m : Int) := by unfold wrap64; omega
  unfold llIn lvIn
  rw [e1, Option.bind_some, if_pos e2, e3]
  by_cases c : lookD q (topL p l) = (m : Int)
  ·rw [if_pos c, if_pos c]
  ·rw [if_neg c, if_neg c]
   exact llIn_f n hn k hr q p hp m hm ls (fun l hl => hls l (by simp [hl]))
theorem llL_f (n : Nat) (hn : n ≤ 6) (k : Nat) (hr : Ready n k) (q : List (List Int × Int)) : ∀ (m g : Nat) (p : List Int) (out : List (List Int)), m < g → m + out.length ≤ 1000 → isOrd n p → llL k q (rowsL n) g p (m : Int) out = some (lvGo (lookD q) (rowsL n) m p out)
 | 0, g + 1, p, out, _, _, _ => by
  unfold llL
  rw [if_neg (by omega)]
  rfl
 | m + 1, g + 1, p, out, hg, ho, hp => by
  unfold llL lvGo
  have e3 : wrap64 (((m + 1 : Nat) : Int) - 1) = (m : Int) := by unfold wrap64; omega
  rw [if_pos (by omega), llIn_f n hn k hr q p hp m (by omega) _ (fun _ h => h), Option.bind_some, e3]
  cases e : lvIn (lookD q) p m (rowsL n) with
  | none => exact llL_f n hn k hr q m g p out (by omega) (by omega) hp
  | some s =>
   obtain ⟨h1, h2⟩ := lvIn_in e
   have hx := topL_isOrd s.1 hp (rows_ok hn h1).2
   simp only
   rw [if_pos ⟨by omega, by rw [h2, topL_length]⟩]
   exact llL_f n hn k hr q m g s.2 _ (by omega) (by simp; omega) (by rw [h2]; exact hx)
theorem LeastLevels_impl (p : List Int) : Ev (fun k => impl_LeastLevels.f k p) (leastLv p) := by
 unfold impl_LeastLevels.f leastLv
 refine Ev.bind (isMade_ev p) ?_
 by_cases h : orderB p = true ∧ 2 ≤ p.length ∧ p.length ≤ 6
 ·have hp := isOrd_of_order h.1
  simp only [h, and_self, decide_true, if_true]
  refine Ev.bind (depths_ev p.length h.2.1 h.2.2) ?_
  obtain ⟨K, hK⟩ := ready_ev p.length h.2.2
  have hl := look_in h.2.2 hp
  refine ⟨max K 1002, fun k hk => ?_⟩
  have hr := hK k (by omega)
  have e1 : keyOk k p = true := (hr p ((allO_mem _ p).2 hp)).1
  have e2 : lookD (depQ p.length) p = (((lookF (depQ p.length) p).toNat : Nat) : Int) := by rw [look_both _ h.2.2 hp]; omega
  have e3 := llL_f p.length h.2.2 k hr (depQ p.length) (lookF (depQ p.length) p).toNat k p [] (by omega) (by simp; omega) hp
  rw [lvGo_same (fun x hx => look_both _ h.2.2 hx) (fun l hl => (rows_ok h.2.2 hl).2) _ p [] hp] at e3
  simp only [e1, true_and, h.2.1, h.2.2, and_self, if_true, e2]
  show ((llL k (depQ p.length) (rowsL p.length) k p _ []).bind _) = _
  rw [e3]
  rfl
 ·rw [decide_eq_false h, if_neg h]
  simp only [Bool.false_eq_true, if_false]
  exact Ev.now _
/-- rounds enough for each order and each level, at the reference -/
def ReadyS (n k : Nat) : Prop := ∀ p, p ∈ allO n → spec_alRank.f k p = some ((rankL p : Nat) : Int) ∧ ∀ l, l ∈ rowsL n → spec_lvTop.f k p l = some (topL p l)
theorem readyS_ev (n : Nat) (hn : n ≤ 6) : ∃ K, ∀ k, K ≤ k → ReadyS n k := by
 refine all_ev (P := fun k p => spec_alRank.f k p = some ((rankL p : Nat) : Int) ∧ ∀ l, l ∈ rowsL n → spec_lvTop.f k p l = some (topL p l)) (allO n) (fun p hp => ?_)
 have ho := (allO_mem n p).1 hp
 obtain ⟨K1, h1⟩ := alRank_ev p (by have := ho.1; omega)
 obtain ⟨K2, h2⟩ := all_ev (P := fun k l => spec_lvTop.f k p l = some (topL p l)) (rowsL n) (fun l hl => by
  have hr := rows_ok hn hl
  exact lvTop_ev p l (by have := ho.1; omega) (by omega) (by rw [ho.1]; exact hr.2))
 exact ⟨max K1 K2, fun k hk => ⟨h1 k (by omega), h2 k (by omega)⟩⟩
theorem slIn_f (n : Nat) (hn : n ≤ 6) (k : Nat) (hr : ReadyS n k) (q : List (List Int × Int)) (p : List Int) (hp : isOrd n p) (m : Nat) (hm : m ≤ 1000) : ∀ ls : List (List Int), (∀ l, l ∈ ls → l ∈ rowsL n) → slIn k (farQ n q) p ((m + 1 : Nat) : Int) ls = some (lvIn (lookF q) p m ls)
 | [], _ => rfl
 | l :: ls, hls => by
  have hl := hls l (by simp)
  have hx := topL_isOrd l hp (rows_ok hn hl).2
  have e1 := (hr p ((allO_mem n p).2 hp)).2 l hl
  have e2 := (hr _ ((allO_mem n _).2 hx)).1
  have e3 : wrap64 (((m + 1 : Nat) : Int) - 1) = (m : Int) := by unfold wrap64; omega
  have hrl := rank_lt hn hx
  have hfl : (farQ n q).length = (allO n).length := by simp [farQ]
  unfold slIn lvIn
  rw [e1, Option.bind_some, e2, Option.bind_some, if_pos ⟨by omega, by omega⟩, e3, far_at hn q hx]
  by_cases c : lookF q (topL p l) = (m : Int)
  ·rw [if_pos c, if_pos c]
  ·rw [if_neg c, if_neg c]
   exact slIn_f n hn k hr q p hp m hm ls (fun l hl => hls l (by simp [hl]))
theorem slL_f (n : Nat) (hn : n ≤ 6) (k : Nat) (hr : ReadyS n k) (q : List (List Int × Int)) : ∀ (m g : Nat) (p : List Int) (out : List (List Int)), m < g → m + out.length ≤ 1000 → isOrd n p → slL k (farQ n q) (rowsL n) g p (m : Int) out = some (lvGo (lookF q) (rowsL n) m p out)
 | 0, g + 1, p, out, _, _, _ => by
  unfold slL
  rw [if_neg (by omega)]
  rfl
 | m + 1, g + 1, p, out, hg, ho, hp => by
  unfold slL lvGo
  have e3 : wrap64 (((m + 1 : Nat) : Int) - 1) = (m : Int) := by unfold wrap64; omega
  rw [if_pos (by omega), slIn_f n hn k hr q p hp m (by omega) _ (fun _ h => h), Option.bind_some, e3]
  cases e : lvIn (lookF q) p m (rowsL n) with
  | none => exact slL_f n hn k hr q m g p out (by omega) (by omega) hp
  | some s =>
   obtain ⟨h1, h2⟩ := lvIn_in e
   have hx := topL_isOrd s.1 hp (rows_ok hn h1).2
   simp only
   rw [if_pos ⟨by omega, by rw [h2, topL_length]⟩]
   exact slL_f n hn k hr q m g s.2 _ (by omega) (by simp; omega) (by rw [h2]; exact hx)
theorem LeastLevels_spec (p : List Int) : Ev (fun k => spec_LeastLevels.f k p) (leastLv p) := by
 unfold spec_LeastLevels.f leastLv
 refine Ev.bind (lvMade_ev p) ?_
 by_cases h : orderB p = true ∧ 2 ≤ p.length ∧ p.length ≤ 6
 ·have hp := isOrd_of_order h.1
  simp only [h, and_self, decide_true, if_true]
  refine Ev.bind (lvFar_ev p.length h.2.1 h.2.2) ?_
  refine Ev.bind (alRank_ev p (by omega)) ?_
  have hrl := rank_lt h.2.2 hp
  have hfl : (farQ p.length (depQ p.length)).length = (allO p.length).length := by simp [farQ]
  have g1 : (0 : Int) ≤ ((rankL p : Nat) : Int) := by omega
  have g2 : ((rankL p : Nat) : Int) < ((farQ p.length (depQ p.length)).length : Int) := by omega
  simp only [g1, g2, and_self, if_true]
  refine Ev.bind (lvAll_ev p.length h.2.1 (by omega) 4 0 (by omega) (by omega) (by omega)) ?_
  rw [← rows_lva p.length h.2.2]
  have g3 := rowsL_le p.length h.2.2
  simp only [g3, if_true, far_at h.2.2 _ hp]
  obtain ⟨K, hK⟩ := readyS_ev p.length h.2.2
  have hl := look_in h.2.2 hp
  refine ⟨max K 1002, fun k hk => ?_⟩
  have e2 : lookF (depQ p.length) p = (((lookF (depQ p.length) p).toNat : Nat) : Int) := by omega
  have e3 := slL_f p.length h.2.2 k (hK k (by omega)) (depQ p.length) (lookF (depQ p.length) p).toNat k p [] (by omega) (by simp; omega) hp
  rw [← e2] at e3
  simp only [e3]
  rfl
 ·rw [decide_eq_false h, if_neg h]
  simp only [Bool.false_eq_true, if_false]
  exact Ev.now _
def MonoQ (q : List (List Int × Int)) : Prop := ∀ (i j : Nat) (a b : List Int × Int), i ≤ j → q[i]? = some a → q[j]? = some b → a.2 ≤ b.2
def ParQ (n : Nat) (q : List (List Int × Int)) : Prop := ∀ e, e ∈ q → e = (idL n, 0) ∨ ∃ a, a ∈ q ∧ ∃ l, l ∈ rowsL n ∧ e.1 = topL a.1 l ∧ e.2 = a.2 + 1
structure InvQ (n : Nat) (q : List (List Int × Int)) (v : Int) : Prop where
 good : GoodQ n q
 mono : MonoQ q
 par : ParQ n q
 le : ∀ e, e ∈ q → e.2 ≤ v
theorem InvQ.put {n : Nat} (hn : n ≤ 6) {q : List (List Int × Int)} {v : Int} (h : InvQ n q v) {a : List Int × Int} (ha : a ∈ q) (hv : a.2 + 1 = v) {l : List Int} (hl : l ∈ rowsL n) : InvQ n (putD (topL a.1 l) v q) v := by
 obtain ⟨j, hj⟩ := List.getElem?_of_mem ha
 have hd := h.good.dep j a hj
 have hjl := (List.getElem?_eq_some_iff.1 hj).1
 have hg := h.good.put (topL_isOrd l (h.good.ord a ha) (rows_ok hn hl).2) (v := v) (by omega) (by omega)
 by_cases hm : q.any (fun e => decide (e.1 = topL a.1 l)) = true
 ·have e : putD (topL a.1 l) v q = q := by unfold putD; rw [if_pos hm]
  rw [e]; exact h
 ·have e : putD (topL a.1 l) v q = q ++ [(topL a.1 l, v)] := by unfold putD; rw [if_neg hm]
  rw [e] at hg ⊢
  refine ⟨hg, fun i j x y hij hx hy => ?_, fun x hx => ?_, fun x hx => ?_⟩
  ·by_cases hjq : j < q.length
   ·rw [List.getElem?_append_left (by omega)] at hx
    rw [List.getElem?_append_left hjq] at hy
    exact h.mono i j x y hij hx hy
   ·have ey : y.2 = v := by
     have := List.mem_of_getElem? hy
     rw [List.getElem?_append_right (by omega)] at hy
     have h2 := List.mem_of_getElem? hy
     rw [List.mem_singleton] at h2
     rw [h2]
    rw [ey]
    rcases List.mem_append.1 (List.mem_of_getElem? hx) with h2 | h2
    ·exact h.le x h2
    ·rw [List.mem_singleton] at h2
     rw [h2]
     exact Int.le_refl _
  ·rcases List.mem_append.1 hx with h2 | h2
   ·rcases h.par x h2 with h3 | ⟨b, hb, l', hl', h4⟩
    ·exact .inl h3
    ·exact .inr ⟨b, by simp [hb], l', hl', h4⟩
   ·rw [List.mem_singleton] at h2
    subst h2
    exact .inr ⟨a, by simp [ha], l, hl, rfl, hv.symm⟩
  ·rcases List.mem_append.1 hx with h2 | h2
   ·exact h.le x h2
   ·rw [List.mem_singleton] at h2
    rw [h2]
    exact Int.le_refl _
theorem putD_sub {x : List Int} {v : Int} {q : List (List Int × Int)} {e : List Int × Int} (h : e ∈ q) : e ∈ putD x v q := by
 obtain ⟨i, hi⟩ := List.getElem?_of_mem h
 exact List.mem_of_getElem? (putD_keep hi)
theorem sIn_inv {n : Nat} (hn : n ≤ 6) {v : Int} {a : List Int × Int} (hv : a.2 + 1 = v) : ∀ (ls : List (List Int)) {q : List (List Int × Int)}, (∀ l, l ∈ ls → l ∈ rowsL n) → InvQ n q v → a ∈ q → InvQ n (sIn a.1 v ls q) v
 | [], _, _, h, _ => h
 | l :: ls, q, hls, h, ha => sIn_inv hn hv ls (fun l hl => hls l (by simp [hl])) (h.put hn ha hv (hls l (by simp))) (putD_sub ha)
def OptQ (n : Nat) (q : List (List Int × Int)) (e : List Int × Int) : Prop := ∀ l, l ∈ rowsL n → ∃ b, b ∈ q ∧ b.1 = topL e.1 l ∧ b.2 ≤ e.2 + 1
theorem sF_inv {n : Nat} (hn : n ≤ 6) : ∀ (f i : Nat) (q : List (List Int × Int)), i + f = 1001 → GoodQ n q → MonoQ q → ParQ n q → (∀ a, q[i]? = some a → ∀ e, e ∈ q → e.2 ≤ a.2 + 1) → (∀ (j : Nat) (e : List Int × Int), j < i → q[j]? = some e → OptQ n q e) →
  ParQ n (sF (rowsL n) f i q) ∧ MonoQ (sF (rowsL n) f i q) ∧ ∀ e, e ∈ sF (rowsL n) f i q → OptQ n (sF (rowsL n) f i q) e
 | 0, i, q, hf, hg, hm, hp, _, ho => by
  refine ⟨hp, hm, fun e he => ?_⟩
  have he' : e ∈ q := he
  obtain ⟨j, hj⟩ := List.getElem?_of_mem he'
  have h1 := (List.getElem?_eq_some_iff.1 hj).1
  have h2 := hg.le hn
  exact ho j e (by omega) hj
 | f + 1, i, q, hf, hg, hm, hp, hb, ho => by
  cases e : q[i]? with
  | none =>
   rw [sF_none e]
   refine ⟨hp, hm, fun x hx => ?_⟩
   obtain ⟨j, hj⟩ := List.getElem?_of_mem hx
   have h1 := (List.getElem?_eq_some_iff.1 hj).1
   have h4 := List.getElem?_eq_none_iff.1 e
   exact ho j x (by omega) hj
  | some a =>
   rw [sF_some e]
   have ha := List.mem_of_getElem? e
   have hi := sIn_inv hn (v := a.2 + 1) rfl (rowsL n) (fun _ h => h) ⟨hg, hm, hp, hb a e⟩ ha
   obtain ⟨g1, g2, g3, g4⟩ := sIn_of n hn hg e
   have hil := (List.getElem?_eq_some_iff.1 e).1
   have back : ∀ (j : Nat) (b : List Int × Int), j < q.length → (sIn a.1 (a.2 + 1) (rowsL n) q)[j]? = some b → q[j]? = some b := by
    intro j b hj hb2
    have h5 := g3 j q[j] (List.getElem?_eq_getElem hj)
    rw [hb2] at h5
    rw [List.getElem?_eq_getElem hj]
    exact h5.symm
   refine sF_inv hn f (i + 1) _ (by omega) hi.good hi.mono hi.par (fun b hb2 x hx => ?_) (fun j b hj hb2 l hl => ?_)
   ·have h1 := hi.le x hx
    have h2 := hi.mono i (i + 1) a b (by omega) (g3 i a e) hb2
    omega
   ·by_cases hji : j < i
    ·obtain ⟨c, hc1, hc2⟩ := ho j b hji (back j b (by omega) hb2) l hl
     obtain ⟨m, hm2⟩ := List.getElem?_of_mem hc1
     exact ⟨c, List.mem_of_getElem? (g3 m c hm2), hc2⟩
    ·have : j = i := by omega
     subst this
     have h5 := back j b (by omega) hb2
     rw [e] at h5
     injection h5 with h5
     subst h5
     have h6 := g4 l hl
     rw [List.mem_map] at h6
     obtain ⟨c, hc1, hc2⟩ := h6
     exact ⟨c, hc1, hc2, hi.le c hc1⟩
theorem depQ_inv (n : Nat) (hn : n ≤ 6) : ParQ n (depQ n) ∧ ∀ e, e ∈ depQ n → OptQ n (depQ n) e := by
 have h := sF_inv hn 1001 0 [(idL n, 0)] (by omega) (start_good n) (fun i j a b _ ha hb => by
  have h1 := List.mem_of_getElem? ha
  have h2 := List.mem_of_getElem? hb
  rw [List.mem_singleton] at h1 h2
  rw [h1, h2]
  exact Int.le_refl _) (fun e he => .inl (by rwa [List.mem_singleton] at he)) (fun a ha e he => by
  have h1 := List.mem_of_getElem? ha
  rw [List.mem_singleton] at h1 he
  rw [h1, he]
  show (0 : Int) ≤ 0 + 1
  decide) (fun j e hj => by omega)
 exact ⟨h.1, h.2.2⟩
/-- the least depth of an order -/
def dist (n : Nat) (p : List Int) : Int := lookF (depQ n) p
theorem dist_mem {n : Nat} (hn : n ≤ 6) {p : List Int} (hp : isOrd n p) : (p, dist n p) ∈ depQ n := by
 have h := depQ_all n hn hp
 rw [List.mem_map] at h
 obtain ⟨e, he, rfl⟩ := h
 unfold dist
 rw [lookF_mem (depQ_good n hn) he]
 exact he
theorem dist_of {n : Nat} (hn : n ≤ 6) {e : List Int × Int} (he : e ∈ depQ n) : dist n e.1 = e.2 := lookF_mem (depQ_good n hn) he
theorem dist_pos {n : Nat} (hn : n ≤ 6) {p : List Int} (hp : isOrd n p) : 0 ≤ dist n p := by
 obtain ⟨j, hj⟩ := List.getElem?_of_mem (dist_mem hn hp)
 exact ((depQ_good n hn).dep j _ hj).1
theorem dist_step {n : Nat} (hn : n ≤ 6) {p : List Int} (hp : isOrd n p) {l : List Int} (hl : l ∈ rowsL n) : dist n (topL p l) ≤ dist n p + 1 := by
 obtain ⟨b, hb, h1, h2⟩ := (depQ_inv n hn).2 _ (dist_mem hn hp) l hl
 rw [← show b.1 = topL p l from h1, dist_of hn hb]
 exact h2
theorem dist_back {n : Nat} (hn : n ≤ 6) {p : List Int} (hp : isOrd n p) (h : 0 < dist n p) : ∃ q, isOrd n q ∧ ∃ l, l ∈ rowsL n ∧ p = topL q l ∧ dist n p = dist n q + 1 := by
 rcases (depQ_inv n hn).1 _ (dist_mem hn hp) with h1 | ⟨a, ha, l, hl, h1, h2⟩
 ·injection h1 with h1 h2
  omega
 ·exact ⟨a.1, (depQ_good n hn).ord a ha, l, hl, h1, by rw [dist_of hn ha]; exact h2⟩
theorem dist_zero {n : Nat} (hn : n ≤ 6) {p : List Int} (hp : isOrd n p) (h : dist n p = 0) : p = idL n := by
 rcases (depQ_inv n hn).1 _ (dist_mem hn hp) with h1 | ⟨a, ha, l, hl, h1, h2⟩
 ·injection h1
 ·obtain ⟨j, hj⟩ := List.getElem?_of_mem ha
  have := ((depQ_good n hn).dep j _ hj).1
  simp only at h2
  omega
theorem dist_id {n : Nat} (hn : n ≤ 6) : dist n (idL n) = 0 := dist_of hn (List.mem_of_getElem? (sF_keep n hn 1001 0 _ (start_good n) 0 _ rfl))
def levO (n j : Nat) (p : List Int) : List Int := ((List.range n).filter fun r => decide (r % 2 = j % 2 ∧ r + 1 < n) && decide (p.getD r 0 > p.getD (r + 1) 0)).map fun r => ((r : Nat) : Int)
def netOk (n : Nat) : Nat → Nat → List Int → Bool
 | 0, _, p => p == idL n
 | m + 1, j, p => (rowsL n).contains (levO n j p) && (topL (topL p (levO n j p)) (levO n j p) == p) && netOk n m (j + 1) (topL p (levO n j p))
theorem net_all : (List.range 7).all (fun n => (allO n).all fun p => netOk n n 0 p) = true := by decide +kernel
theorem net_dist {n : Nat} (hn : n ≤ 6) : ∀ (m j : Nat) (p : List Int), isOrd n p → netOk n m j p = true → dist n p ≤ (m : Int)
 | 0, _, p, hp, h => by
  have : p = idL n := eq_of_beq h
  rw [this, dist_id hn]
  decide
 | m + 1, j, p, hp, h => by
  unfold netOk at h
  rw [Bool.and_eq_true, Bool.and_eq_true] at h
  have hl : levO n j p ∈ rowsL n := List.contains_iff_mem.1 h.1.1
  have hq := topL_isOrd _ hp (rows_ok hn hl).2
  have h1 := net_dist hn m (j + 1) _ hq h.2
  have h2 := dist_step hn hq hl
  rw [show topL (topL p (levO n j p)) (levO n j p) = p from eq_of_beq h.1.2] at h2
  omega
theorem dist_le {n : Nat} (hn : n ≤ 6) {p : List Int} (hp : isOrd n p) : dist n p ≤ (n : Int) :=
 net_dist hn n 0 p hp (List.all_eq_true.1 (List.all_eq_true.1 net_all n (by simp; omega)) p ((allO_mem n p).2 hp))
theorem wrap_pred {i : Int} {n : Nat} (h0 : 0 < i) (h : i < (n : Int)) (hn : n ≤ 140737488351232) : wrap64 (i - 1) = i - 1 := by
 unfold wrap64; omega
theorem between_some (a b c : Int) : ∃ r, impl_between.f a b c = some r := by
 unfold impl_between.f; split <;> exact ⟨_, rfl⟩
theorem isLevel_l0 (n : Int) (l : List Int) (hn : l.length ≤ 140737488351232) (d : Nat) : ∀ (k : Nat) (i : Int), 0 ≤ i → i ≤ l.length → (l.length : Int) - i = d → d < k →
  ∃ r, impl_isLevel.l0 k n l l (l.length : Int) i = some r := by
 induction d with
 | zero =>
  intro k i h0 h1 hd hk
  obtain ⟨k, rfl⟩ : ∃ m, k = m + 1 := ⟨k - 1, by omega⟩
  simp only [impl_isLevel.l0]; rw [if_neg (by omega)]; exact ⟨_, rfl⟩
 | succ d ih =>
  intro k i h0 h1 hd hk
  obtain ⟨k, rfl⟩ : ∃ m, k = m + 1 := ⟨k - 1, by omega⟩
  obtain ⟨b, hb⟩ := between_some (rd l i) 0 (wrap64 (n - 2))
  obtain ⟨r, hr⟩ := ih k (i + 1) (by omega) (by omega) (by omega) (by omega)
  have hw := wrap_succ (n := l.length) h0 (show i < (l.length : Int) by omega) (by omega)
  simp only [impl_isLevel.l0]
  rw [if_pos (by omega), if_pos (by omega), if_pos (by omega), hb, hw, hr]
  simp only [Option.bind_some]
  cases b with
  | false => exact ⟨_, rfl⟩
  | true =>
   simp only [if_true]
   by_cases h : 0 < i
   ·rw [if_pos h, wrap_pred (n := l.length) h (by omega) hn, if_pos (by omega), if_pos (by omega)]
    split <;> exact ⟨_, rfl⟩
   ·rw [if_neg h]; exact ⟨_, rfl⟩
def lvB (a : Int) (x : List Int) : Bool := (impl_isLevel.f (x.length + 2) a x).getD false
theorem isLevel_ev (a : Int) (x : List Int) (h : x.length ≤ 1048576) : Ev (fun k => impl_isLevel.f k a x) (lvB a x) := by
 obtain ⟨r, hr⟩ := isLevel_l0 a x (by omega) x.length (x.length + 2) 0 (by omega) (by omega) (by omega) (by omega)
 have e : impl_isLevel.f (x.length + 2) a x = some r := hr
 have e2 : lvB a x = r := by unfold lvB; rw [e]; rfl
 rw [e2]
 exact Ev.of (fun k => impl_isLevel.mono _ _ k) e
theorem levAll_ev (a : Int) : ∀ (l : List (List Int)), (∀ x ∈ l, x.length ≤ 1048576) → Ev (fun k => levAll k a l) (l.any (fun x => !(lvB a x)))
 | [], _ => Ev.now _
 | x :: l, h => by
  refine Ev.bind (isLevel_ev a x (h x (by simp))) ?_
  refine Ev.bind (levAll_ev a l (fun y hy => h y (by simp [hy]))) ?_
  exact Ev.now _
def ifLadder (a : Int) (l : List Int) : Int × List Int × Bool := if isLadderB a l = true then (a, l, true) else (0, [], false)
theorem checked_f (a : Int) (l : List Int) : impl_checked.f a l = some (ifLadder a l) := by
 unfold impl_checked.f impl_isLadder.f ifLadder
 simp only [Option.bind_some]
 cases isLadderB a l <;> rfl
theorem map_iso_put (out : List (List Int)) (y : Int) (t : Nat) (ht : lvAt out y out.length = t) : (lvPut out y).map isoL = (lvoOut (out.map isoL) t).set t (putL ((lvoOut (out.map isoL) t).getD t []) y) := by
 have hle := lvAt_le out y out.length
 unfold lvPut lvoOut
 rw [ht] at hle ⊢
 rw [List.length_map]
 by_cases h : t = out.length
 ·rw [if_pos h, if_pos h, h]
  have e : (out.map isoL ++ [[]]).getD out.length [] = [] := by
   rw [List.getD_eq_getElem?_getD, List.getElem?_append_right (by simp)]; simp
  rw [e, List.set_append_right _ _ (by simp)]
  simp [isoL, putL]
 ·rw [if_neg h, if_neg h, List.map_set, isoL_snoc]
  congr 2
  rw [List.getD_eq_getElem?_getD, List.getD_eq_getElem?_getD, List.getElem?_map, List.getElem?_eq_getElem (by omega)]; rfl
theorem l1Put_go {P Q : List Int} {y : Int} (hlen : (P ++ Q).length ≤ 1000) (hP : ∀ x ∈ P, x < y) (hQ : ∀ x ∈ Q, y < x) : ∀ (d j : Nat), j + d = P.length → Ev (fun k => spec_l1Put.l0 k (P ++ Q) y (j : Int)) (P ++ y :: Q) := by
 rw [List.length_append] at hlen
 intro d
 induction d with
 | zero =>
  intro j hj
  have hj' : j = P.length := by omega
  subst hj'
  refine Ev.succ (Ev.ret fun k => ?_)
  have t1 : (P ++ Q).take P.length = P := by simp
  have t2 : (P ++ Q).drop P.length = Q := by simp
  have g0 : (0 : Int) ≤ (P.length : Int) := by omega
  have g1 : (P.length : Int) ≤ ((P ++ Q).length : Int) := by rw [List.length_append]; omega
  have g2 : ([] : List Int).length + P.length < 17592186044416 := by simp; omega
  have g3 : (([] : List Int) ++ P).length < 17592186044416 := by simp; omega
  have g4 : ((([] : List Int) ++ P) ++ [y]).length + Q.length < 17592186044416 := by simp; omega
  cases Q with
  | nil =>
   have g5 : ¬ (P.length : Int) < ((P ++ ([] : List Int)).length : Int) := by simp
   simp only [spec_l1Put.l0, g5, if_false, Option.bind_some, g0, g1, if_true, Int.toNat_natCast, t1, t2, g2, g3, g4]
   simp
  | cons q Q =>
   have hq := hQ q (by simp)
   have g5 : (P.length : Int) < ((P ++ q :: Q).length : Int) := by rw [List.length_append, List.length_cons]; omega
   have g6 : rd (P ++ q :: Q) (P.length : Int) = q := by rw [rdn _ _ (by rw [List.length_append, List.length_cons]; omega)]; simp
   have g7 : ¬ q < y := by omega
   have g8 : ¬ q = y := by omega
   simp only [spec_l1Put.l0, g5, if_true, g0, g6, g7, g8, if_false, Option.bind_some, g1, Int.toNat_natCast, t1, t2, g2, g3, g4]
   simp
 | succ d ih =>
  intro j hj
  refine Ev.succ ?_
  have hjl : j < (P ++ Q).length := by rw [List.length_append]; omega
  have g0 : (0 : Int) ≤ (j : Int) := by omega
  have g5 : (j : Int) < ((P ++ Q).length : Int) := by omega
  have g6 : rd (P ++ Q) (j : Int) = P[j] := by rw [rdn _ _ hjl, List.getElem_append_left (by omega)]
  have g7 : P[j] < y := hP _ (List.getElem_mem _)
  simp only [spec_l1Put.l0, g5, if_true, g0, g6, g7, wrap_nat j 2000 (by omega) (by omega)]
  exact ih (j + 1) (by omega)
theorem l1Put_ev {l : List Int} {y : Int} (hl : l.length ≤ 1000) (h : Inc l) (hy : y ∉ l) : Ev (fun k => spec_l1Put.f k l y) (putL l y) := by
 obtain ⟨P, Q, rfl, hP, hQ⟩ := split_at h hy
 rw [putL_of hP hQ]
 unfold spec_l1Put.f
 exact l1Put_go hl hP hQ P.length 0 (Nat.zero_add _)
theorem lvoGo_ev {n : Nat} (hn : n ≤ 8) : ∀ (xs : List Int) (free : List Int) (out : List (List Int)), (∀ x ∈ xs, 0 ≤ x ∧ x ≤ (n : Int) - 2) → LevOk n out → FreeOk n out free → Ev (fun k => lvoGo k xs free (out.map isoL)) ((lvPuts out xs).map isoL) := by
 intro xs
 induction xs with
 | nil => intro free out _ _ _; exact Ev.ret fun k => rfl
 | cons x xs ih =>
  intro free out hx hlev hfree
  have hx0 := hx x (by simp)
  obtain ⟨y, rfl⟩ : ∃ y : Nat, x = y := ⟨x.toNat, by omega⟩
  have hf1 := hfree.2 y (by omega)
  have hf2 := hfree.2 (y + 1) (by omega)
  have hmost : mostV (free.getD y 0) (free.getD (y + 1) 0) = ((lvAt out (y : Int) out.length : Nat) : Int) := by
   rw [hf1, hf2, top_touch hn hlev hx0, top_or]
   unfold mostV
   have e : (((y + 1 : Nat) : Int)) = (y : Int) + 1 := rfl
   rw [e]
   split <;> rename_i h1 <;> split <;> rename_i h2 <;> first | rfl | omega
  have hle := lvAt_le out (y : Int) out.length
  have hlp := lvPut_free hn hlev hx0
  have hfp := hfree.put hn hlev hx0
  have hmap := map_iso_put out (y : Int) _ rfl
  have g1 : (0 : Int) ≤ (y : Int) ∧ (y : Int) + 1 < (free.length : Int) := ⟨by omega, by rw [hfree.1]; omega⟩
  simp only [lvoGo, g1, and_self, if_true, Int.toNat_natCast, hmost]
  have g2 : (0 : Int) ≤ ((lvAt out (y : Int) out.length : Nat) : Int) ∧ ((lvAt out (y : Int) out.length : Nat) : Int) ≤ ((out.map isoL).length : Int) := ⟨by omega, by rw [List.length_map]; omega⟩
  simp only [g2, and_self, if_true]
  have hXok : Inc ((lvoOut (out.map isoL) (lvAt out (y : Int) out.length)).getD (lvAt out (y : Int) out.length) []) ∧ (y : Int) ∉ (lvoOut (out.map isoL) (lvAt out (y : Int) out.length)).getD (lvAt out (y : Int) out.length) [] ∧ ((lvoOut (out.map isoL) (lvAt out (y : Int) out.length)).getD (lvAt out (y : Int) out.length) []).length ≤ 1000 := by
   have hat := hlev.at (lvAt out (y : Int) out.length)
   have hlp2 := hlp.at (lvAt out (y : Int) out.length)
   rw [lvPut_getD, if_pos rfl] at hlp2
   have hnd := hlp2.2
   rw [List.nodup_append] at hnd
   have hni : (y : Int) ∉ out.getD (lvAt out (y : Int) out.length) [] := fun hm => hnd.2.2 _ hm _ (by simp) rfl
   have hl8 := LevOk.len hn hat
   unfold lvoOut
   rw [List.length_map]
   generalize lvAt out (y : Int) out.length = t at hat hle hni hl8
   have hs := isoL_spec _ (out.getD t []) rfl
   by_cases h : t = out.length
   ·rw [if_pos h]
    have e : (out.map isoL ++ [[]]).getD t [] = [] := by
     rw [h, List.getD_eq_getElem?_getD, List.getElem?_append_right (by simp)]; simp
    rw [e]
    exact ⟨List.Pairwise.nil, by simp, by simp⟩
   ·rw [if_neg h]
    have e : (out.map isoL).getD t [] = isoL (out.getD t []) := by
     rw [List.getD_eq_getElem?_getD, List.getD_eq_getElem?_getD, List.getElem?_map, List.getElem?_eq_getElem (by omega)]; rfl
    rw [e]
    exact ⟨hs.2.2 hat.2, fun hm => hni ((hs.1 _).1 hm), by rw [hs.2.1]; omega⟩
  refine Ev.bind (l1Put_ev hXok.2.2 hXok.1 hXok.2.1) ?_
  rw [← hmap]
  have := ih _ (lvPut out (y : Int)) (fun z hz => hx z (by simp [hz])) hlp hfp
  rw [show lvPuts out ((y : Int) :: xs) = lvPuts (lvPut out (y : Int)) xs from rfl]
  exact this
/-- both tell the same levels -/
theorem levels_both {a : Int} {l : List Int} (h : isLadderB a l = true) : ∃ r, Ev (fun k => spec_lvOf.f k a l) r ∧ Ev (fun k => impl_levelsOf.f k a l) r ∧ r.length ≤ l.length ∧ ∀ x ∈ r, x.length ≤ 8 := by
 have hl := (isLadderB_iff a l).1 h
 obtain ⟨n, rfl⟩ : ∃ n : Nat, a = n := ⟨a.toNat, by omega⟩
 have hn : n ≤ 8 := by omega
 have hx : ∀ x ∈ l, 0 ≤ x ∧ x ≤ (n : Int) - 2 := hl.2.2.2
 have hok0 : LevOk n [] := fun _ h => by cases h
 obtain ⟨hok, hlen⟩ := lvPuts_ok hn l [] hx hok0
 refine ⟨(lvPuts [] l).map isoL, ?_, ?_, by simpa using hlen, fun x hx2 => ?_⟩
 ·unfold spec_lvOf.f
  have g : (0 : Int) ≤ (n : Int) ∧ (n : Int) ≤ 1000 ∧ l.length ≤ 1000 := ⟨by omega, by omega, by omega⟩
  simp only [g, and_self, if_true, Int.toNat_natCast]
  refine lvoGo_ev hn l (List.replicate n 0) [] hx hok0 ⟨List.length_replicate, fun c hc => ?_⟩
  rw [List.getD_eq_getElem?_getD, List.getElem?_replicate, if_pos hc]; rfl
 ·unfold impl_levelsOf.f
  have g : l.length ≤ 1000 := by omega
  simp only [g, if_true]
  exact sortAll_ev hn _ hok
 ·obtain ⟨y, hy, rfl⟩ := List.mem_map.1 hx2
  rw [(isoL_spec _ y rfl).2.1]
  exact LevOk.len hn (hok y hy)
/-- what comes to an end comes to one end -/
theorem Ev.uniq {α : Type} {g : Nat → Option α} {a b : α} (h1 : Ev g a) (h2 : Ev g b) : a = b := by
 obtain ⟨K, h1⟩ := h1
 obtain ⟨J, h2⟩ := h2
 have e1 := h1 (max K J) (Nat.le_max_left _ _)
 rw [h2 (max K J) (Nat.le_max_right _ _)] at e1
 injection e1 with e1
 exact e1.symm
theorem big_ev (a b : List Int) (ha : a.length ≤ maxLen) (hb : b.length ≤ maxLen) : ∃ t, laws_big.f a b = some t ∧ (t = false → a.length ≤ 1048576 ∧ b.length ≤ 1048576) := by
 unfold maxLen at ha hb
 unfold laws_big.f
 by_cases h : (a.length : Int) > 1048576
 ·rw [if_pos h]; exact ⟨true, rfl, fun e => by cases e⟩
 ·rw [if_neg h]
  refine ⟨_, rfl, fun e => ?_⟩
  have := of_decide_eq_false e
  rw [wrap_in (by omega) (by omega)] at this
  omega
theorem bytes_of {c : List Int} (h : ∀ x ∈ c, (Lit.int .u8 x).wf = true) : ∀ x ∈ c, 0 ≤ x ∧ x ≤ 255 := by
 intro x hx
 have := h x hx
 simp [Lit.wf, IntKind.min, IntKind.max, IntKind.signed, IntKind.bits] at this
 omega
theorem nSame_refl (l : List Int) (hn : l.length ≤ 9223372036854775807) : Ev (fun k => laws_nSame.f k l l) true := by
 unfold laws_nSame.f
 simp only [if_true]
 have key := Ev.upto (L := fun k j (_ : Unit) => laws_nSame.l0 k l l (l.length : Int) (j : Int)) (R := fun _ _ => true) (n := l.length)
  (fun _ => by
   refine Ev.succ (Ev.ret fun k => ?_)
   rw [laws_nSame.l0, if_neg (by omega)])
  (fun j _ hj ih => by
   refine Ev.succ ?_
   have h1 : (j : Int) < (l.length : Int) := by omega
   have h0 : (0 : Int) ≤ (j : Int) := by omega
   simp only [laws_nSame.l0, h1, h0, if_true, wrap_nat j _ hj hn]
   exact ih ())
 exact key 0 () (Nat.zero_le _)
theorem brick_l0 (n : Nat) (hn1 : 2 ≤ n) (hn : n ≤ 8) (d : Nat) : ∀ (q : Nat) (acc : List Int), acc.length + d ≤ 1000 → (n - 1 - q + 1) / 2 = d → q ≤ 10 →
  Ev (fun k => impl_brick.l0 k (n : Int) acc (q : Int)) (acc ++ stp d q) := by
 have hw1 : wrap64 ((n : Int) - 1) = ((n - 1 : Nat) : Int) := by unfold wrap64; omega
 induction d with
 | zero =>
  intro q acc _ hd hq
  refine Ev.succ ?_
  have g1 : ¬ (q : Int) < ((n - 1 : Nat) : Int) := by omega
  simp only [impl_brick.l0, hw1, g1, if_false]
  exact Ev.eq (Ev.now _) (by simp [stp])
 | succ d ih =>
  intro q acc hl hd hq
  refine Ev.succ ?_
  have g1 : (q : Int) < ((n - 1 : Nat) : Int) := by omega
  have g2 : acc.length < 17592186044416 := by omega
  have g3 : wrap64 ((q : Int) + 2) = ((q + 2 : Nat) : Int) := by unfold wrap64; omega
  simp only [impl_brick.l0, hw1, g1, g2, g3, if_true]
  exact Ev.eq (ih (q + 2) (acc ++ [(q : Int)]) (by simp; omega) (by omega) (by omega)) (by simp [stp])
theorem brick_ev (n j : Nat) (hn1 : 2 ≤ n) (hn : n ≤ 8) : Ev (fun k => impl_brick.f k (n : Int) (j : Int)) (brickL n j) := by
 unfold impl_brick.f
 have g2 : Int.tmod (j : Int) 2 = ((j % 2 : Nat) : Int) := by rw [Int.tmod_eq_emod_of_nonneg (by omega)]; omega
 rw [g2]
 exact brick_l0 n hn1 hn _ (j % 2) [] (by simp; omega) rfl (by omega)
theorem ownL_eq (p b : List Int) : ∀ acc, okRungs p.length b → acc.length + b.length ≤ 1000 → ownL p b acc = some (acc ++ b.filter (falls p)) := by
 induction b with
 | nil => intro acc _ _; simp [ownL]
 | cons r b ih =>
  intro acc h hl
  have hr := h r (by simp)
  rw [List.length_cons] at hl
  rw [ownL, if_pos ⟨hr.1, hr.2, by omega⟩]
  by_cases c : rd p r > rd p (r + 1)
  ·rw [if_pos c, ih _ (fun q hq => h q (by simp [hq])) (by simp; omega), List.filter_cons_of_pos (by simpa [falls] using c), List.append_assoc]; rfl
  ·rw [if_neg c, ih _ (fun q hq => h q (by simp [hq])) (by omega), List.filter_cons_of_neg (by simpa [falls] using c)]
theorem routeGo_ev (n : Nat) (hn1 : 2 ≤ n) (hn : n ≤ 8) (m : Nat) : ∀ j p out, p.length = n → Ev (fun k => routeGo k m j p out) (out ++ routeP n m j p) := by
 induction m with
 | zero => intro j p out _; exact Ev.eq (Ev.now _) (by simp [routeP])
 | succ m ih =>
  intro j p out hp
  simp only [routeGo]
  rw [hp]
  refine Ev.bind (brick_ev n j hn1 hn) ?_
  have hb := brickL_length n j hn
  have e := ownL_eq p (brickL n j) [] (by rw [hp]; exact brickL_ok n j) (by simp; omega)
  rw [List.nil_append] at e
  simp only [e, Option.bind_some]
  have hl := lvlOf_length n j p hn
  refine Ev.bind (laid_ev p (lvlOf n j p) (by omega) (by omega) (by rw [hp]; exact lvlOf_ok n j p)) ?_
  refine Ev.eq (ih (j + 1) _ (out ++ [lvlOf n j p]) (by rw [topL_length]; exact hp)) ?_
  simp [routeP]
theorem route_ev (p : List Int) (hn1 : 2 ≤ p.length) (hn : p.length ≤ 8) : Ev (fun k => impl_route.f k p) (routeP p.length p.length 0 p) := by
 have g : p.length ≤ 1000 := by omega
 unfold impl_route.f
 simp only [g, if_true]
 exact routeGo_ev p.length hn1 hn _ 0 p [] rfl
theorem wq1 (q : Nat) (h : q ≤ 10) : wrap64 ((q : Int) + 1) = ((q + 1 : Nat) : Int) := wrap_nat q 11 (by omega) (by omega)
theorem wq2 (q : Nat) (h : q ≤ 10) : wrap64 ((q : Int) + 2) = ((q + 2 : Nat) : Int) := wrap_in (by omega) (by omega)
theorem wp1 (n : Nat) (h1 : 2 ≤ n) (h : n ≤ 8) : wrap64 ((n : Int) - 1) = ((n - 1 : Nat) : Int) := by rw [wrap_in (by omega) (by omega)]; omega
theorem lvRoute_l1 (p0 now : List Int) (n : Nat) (hp : p0.length = n) (hnow : now.length = n) (hn1 : 2 ≤ n) (hn : n ≤ 8) (out : List (List Int)) (hout : out.length ≤ 1000) (j : Nat) (R : List (List Int)) (d : Nat) : ∀ (q : Nat) (acc : List Int), acc.length + d ≤ 1000 → (n - 1 - q + 1) / 2 = d → q ≤ 10 → okRungs n acc →
  Ev (fun k => spec_lvRoute.l0 k p0 (topL now (acc ++ (stp d q).filter (falls now))) (out ++ [acc ++ (stp d q).filter (falls now)]) (n : Int) (wrap64 ((j : Int) + 1))) R →
  Ev (fun k => spec_lvRoute.l1 k p0 now out acc (q : Int) (n : Int) (j : Int)) R := by
 have hw1 : wrap64 ((p0.length : Int) - 1) = ((n - 1 : Nat) : Int) := by rw [hp]; exact wp1 n hn1 hn
 induction d with
 | zero =>
  intro q acc hl hd hq hok h
  refine Ev.succ ?_
  have g1 : ¬ (q : Int) < ((n - 1 : Nat) : Int) := by omega
  have g2 : out.length < 5864062014805 := by omega
  simp only [spec_lvRoute.l1, hw1, g1, if_false]
  refine Ev.bind (lvTop_ev now acc (by omega) (by omega) (by rw [hnow]; exact hok)) ?_
  simp only [g2, if_true]
  simpa [stp] using h
 | succ d ih =>
  intro q acc hl hd hq hok h
  refine Ev.succ ?_
  have g1 : (q : Int) < ((n - 1 : Nat) : Int) := by omega
  have g2 : acc.length < 17592186044416 := by omega
  have g5 : (0 : Int) ≤ (q : Int) := by omega
  have g6 : (q : Int) < (now.length : Int) := by omega
  have g7 : (0 : Int) ≤ ((q + 1 : Nat) : Int) := by omega
  have g8 : ((q + 1 : Nat) : Int) < (now.length : Int) := by omega
  have g3 := wq2 q hq
  have g4 := wq1 q hq
  simp only [spec_lvRoute.l1, hw1, g1, g2, g3, g4, g5, g6, g7, g8, if_true]
  clear g3 g4 hw1
  refine Ev.ite (fun c => ?_) (fun c => ?_)
  ·refine ih (q + 2) (acc ++ [(q : Int)]) (by simp; omega) (by omega) (by omega) ?_ ?_
   ·intro r hr
    rcases List.mem_append.1 hr with hr | hr
    ·exact hok r hr
    ·obtain rfl := List.mem_singleton.1 hr; omega
   ·rw [stp, List.filter_cons_of_pos (by simpa [falls] using c)] at h
    simpa using h
  ·refine ih (q + 2) acc (by omega) (by omega) (by omega) hok ?_
   rw [stp, List.filter_cons_of_neg (by simpa [falls] using c)] at h
   exact h
theorem lvRoute_l0 (p0 : List Int) (n : Nat) (hp : p0.length = n) (hn1 : 2 ≤ n) (hn : n ≤ 8) (m : Nat) : ∀ j now out, j + m = n → now.length = n → out.length = j →
  Ev (fun k => spec_lvRoute.l0 k p0 now out (n : Int) (j : Int)) (out ++ routeP n m j now) := by
 induction m with
 | zero =>
  intro j now out hj _ _
  refine Ev.succ ?_
  have g1 : ¬ (j : Int) < (n : Int) := by omega
  simp only [spec_lvRoute.l0, g1, if_false]
  exact Ev.eq (Ev.now _) (by simp [routeP])
 | succ m ih =>
  intro j now out hj hnow hout
  refine Ev.succ ?_
  have g1 : (j : Int) < (n : Int) := by omega
  have g2 : Int.tmod (j : Int) 2 = ((j % 2 : Nat) : Int) := by rw [Int.tmod_eq_emod_of_nonneg (by omega)]; omega
  simp only [spec_lvRoute.l0, g1, if_true, g2]
  refine lvRoute_l1 p0 now n hp hnow hn1 hn out (by omega) j _ _ (j % 2) [] (by simp; omega) rfl (by omega) (fun r h => by simp at h) ?_
  rw [wrap_nat j n (by omega) (by omega), List.nil_append]
  have := ih (j + 1) (topL now (lvlOf n j now)) (out ++ [lvlOf n j now]) (by omega) (by rw [topL_length]; exact hnow) (by simp [hout])
  refine Ev.eq this ?_
  simp [routeP]
theorem lvRoute_ev (p : List Int) (hn1 : 2 ≤ p.length) (hn : p.length ≤ 8) : Ev (fun k => spec_lvRoute.f k p) (routeP p.length p.length 0 p) := by
 unfold spec_lvRoute.f
 simp only [l1Own_f p (by omega), Option.bind_some]
 exact lvRoute_l0 p p.length rfl hn1 hn _ 0 p [] (by omega) rfl rfl
def routeOf (p : List Int) : List (List Int) × Bool := if orderB p = true ∧ 2 ≤ p.length then (routeP p.length p.length 0 p, true) else ([], false)
theorem BrickRoute_spec (p : List Int) : Ev (fun k => spec_BrickRoute.f k p) (routeOf p) := by
 unfold spec_BrickRoute.f routeOf
 refine Ev.bind (laOrder_ev p) ?_
 by_cases h : orderB p = true
 ·have hn := ((orderB_iff p).1 h).1
  simp only [h, if_true, true_and]
  by_cases h2 : 2 ≤ p.length
  ·have g : ¬ (p.length : Int) < 2 := by omega
   simp only [g, h2, if_true, if_false]
   exact Ev.bind (lvRoute_ev p h2 hn.2) (Ev.now _)
  ·have g : (p.length : Int) < 2 := by omega
   simp only [g, h2, if_true, if_false]
   exact Ev.now _
 ·have h' : orderB p = false := by simpa using h
  simp only [h', Bool.false_eq_true, if_false, false_and]
  exact Ev.now _
theorem over_f (w r : Int) : impl_over.f w r = some (ovr w r) := by
 unfold impl_over.f ovr; split
 ·rfl
 ·split <;> rfl
theorem way_ev (a : Int) (l : List Int) (w : Int) (hn : l.length ≤ 1000000) : Ev (fun k => impl_way.f k a l w) (downs w l) := by
 have key := Ev.inv (σ := Int × List Int) (L := fun k j s => impl_way.l0 k s.1 s.2 l (l.length : Int) (j : Int)) (r := downs w l) (n := l.length)
  (Inv := fun j s => s.1 = endOf w (l.take j) ∧ s.2 = downs w (l.take j))
  (fun s hs => by
   obtain ⟨s1, s2⟩ := s; obtain ⟨rfl, rfl⟩ := hs
   refine Ev.succ (Ev.ret fun k => ?_)
   rw [impl_way.l0, if_neg (by omega), List.take_length])
  (fun j s hj hs ih => by
   obtain ⟨s1, s2⟩ := s; obtain ⟨rfl, rfl⟩ := hs
   refine Ev.succ ?_
   have h1 : (j : Int) < (l.length : Int) := by omega
   have h0 : (0 : Int) ≤ (j : Int) := by omega
   have h2 : (downs w (l.take j)).length < 17592186044416 := by rw [downs_length, List.length_take]; omega
   simp only [impl_way.l0, h1, h0, h2, if_true, rd_nat l j hj, wrap_nat j _ hj (by omega), over_f, Option.bind_some]
   have e1 : ovr (endOf w (l.take j)) l[j] = endOf w (l.take (j + 1)) := by rw [take_snoc l j hj, endOf_snoc]
   have e2 : downs w (l.take j) ++ [ovr (endOf w (l.take j)) l[j]] = downs w (l.take (j + 1)) := by rw [take_snoc l j hj, downs_snoc]
   exact ih (_, _) ⟨e1, e2⟩)
 exact key 0 (w, [w]) (Nat.zero_le _) ⟨rfl, rfl⟩
theorem result_ev (n : Nat) (l : List Int) (hn : n ≤ 8) (hl : l.length ≤ 1000000) : Ev (fun k => impl_result.f k (n : Int) l) (res n l) := by
 have key := Ev.inv (σ := List Int) (L := fun k j s => impl_result.l0 k (n : Int) l s (n : Int) (j : Int)) (r := res n l) (n := n)
  (Inv := fun j s => s = (res n l).take j)
  (fun s hs => by
   subst hs
   refine Ev.succ (Ev.ret fun k => ?_)
   rw [impl_result.l0, if_neg (by omega), List.take_of_length_le (by rw [res_length]; omega)])
  (fun j s hj hs ih => by
   subst hs
   refine Ev.succ ?_
   have h1 : (j : Int) < (n : Int) := by omega
   have h3 : ((res n l).take j).length < 17592186044416 := by rw [List.length_take, res_length]; omega
   simp only [impl_result.l0, h1, if_true, wrap_nat j n hj (by omega)]
   refine Ev.bind (way_ev (n : Int) l (j : Int) hl) ?_
   have e0 : wrap64 (((downs (j : Int) l).length : Int) - 1) = (l.length : Int) := by rw [downs_length]; unfold wrap64; omega
   have h0 : (0 : Int) ≤ (l.length : Int) := by omega
   have h2 : (l.length : Int) < ((downs (j : Int) l).length : Int) := by rw [downs_length]; omega
   have e : rd (downs (j : Int) l) (l.length : Int) = endOf (j : Int) l := by
    unfold rd; rw [nat_toNat, List.getD_eq_getElem?_getD, downs_last]; rfl
   simp only [e0, h0, h2, h3, if_true, e]
   exact ih _ (res_take n j l hj).symm)
 exact key 0 [] (Nat.zero_le _) rfl
theorem inverted_l1 (p : List Int) (n : Nat) (hn : p.length = n) (hn8 : n ≤ 1000) (i : Nat) (hi : i < n) (R : List (List Int)) (d : Nat) : ∀ (j : Nat) (acc : List (List Int)), j + d = n → acc.length + d ≤ 10000000 →
  Ev (fun k => impl_inverted.l0 k p (acc ++ irow p i j d) (n : Int) ((i + 1 : Nat) : Int)) R → Ev (fun k => impl_inverted.l1 k p acc (i : Int) (j : Int) (n : Int) (i : Int)) R := by
 subst hn
 induction d with
 | zero =>
  intro j acc hj _ h
  refine Ev.succ ?_
  have g1 : ¬ (j : Int) < (p.length : Int) := by omega
  simp only [impl_inverted.l1, g1, if_false, wrap_nat i p.length hi (by omega)]
  simpa [irow] using h
 | succ d ih =>
  intro j acc hj hl h
  refine Ev.succ ?_
  have g1 : (j : Int) < (p.length : Int) := by omega
  have g2 : (0 : Int) ≤ (i : Int) := by omega
  have g3 : (i : Int) < (p.length : Int) := by omega
  have g4 : (0 : Int) ≤ (j : Int) := by omega
  have g5 : acc.length < 5864062014805 := by omega
  simp only [impl_inverted.l1, g1, g2, g3, g4, g5, if_true, wrap_nat j p.length (by omega) (by omega)]
  refine Ev.ite (fun c => ?_) (fun c => ?_)
  ·refine ih (j + 1) _ (by omega) (by simp; omega) ?_
   rw [irow, if_pos c] at h
   simpa using h
  ·refine ih (j + 1) _ (by omega) (by omega) ?_
   rw [irow, if_neg c] at h
   simpa using h
theorem inverted_l0 (p : List Int) (n : Nat) (hn : p.length = n) (hn8 : n ≤ 1000) (d : Nat) : ∀ (i : Nat) (acc : List (List Int)), i + d = n → acc.length + d * 1000 ≤ 1000000 →
  Ev (fun k => impl_inverted.l0 k p acc (n : Int) (i : Int)) (acc ++ ips p i d) := by
 induction d with
 | zero =>
  intro i acc hi _
  refine Ev.succ ?_
  have g1 : ¬ (i : Int) < (n : Int) := by omega
  simp only [impl_inverted.l0, g1, if_false]
  simpa [ips] using Ev.now _
 | succ d ih =>
  intro i acc hi hl
  refine Ev.succ ?_
  have g1 : (i : Int) < (n : Int) := by omega
  simp only [impl_inverted.l0, g1, if_true, wrap_nat i n (by omega) (by omega)]
  refine inverted_l1 p n hn hn8 i (by omega) _ d (i + 1) acc (by omega) (by omega) ?_
  have hr := irow_length p i d (i + 1)
  refine Ev.eq (ih (i + 1) _ (by omega) (by rw [List.length_append]; omega)) ?_
  rw [ips, List.append_assoc]
theorem inverted_ev (p : List Int) (hn : p.length ≤ 1000) : Ev (fun k => impl_inverted.f k p) (ips p 0 p.length) := by
 unfold impl_inverted.f
 exact Ev.eq (inverted_l0 p p.length rfl hn p.length 0 [] (by omega) (by simp; omega)) (by simp)
theorem nLadder_refl (a : Int) (l : List Int) (hn : l.length ≤ 9223372036854775807) : Ev (fun k => laws_nLadder.f k a l a l) true := by
 unfold laws_nLadder.f
 simp only [if_true]
 exact Ev.bind (nSame_refl l hn) (Ev.now _)
def leastD (p : List Int) : Int × Bool := if orderB p = true ∧ 2 ≤ p.length ∧ p.length ≤ 6 then (lookF (depQ p.length) p, true) else (0, false)
theorem LeastDepth_spec (p : List Int) : Ev (fun k => spec_LeastDepth.f k p) (leastD p) := by
 unfold spec_LeastDepth.f leastD
 refine Ev.bind (lvMade_ev p) ?_
 by_cases h : orderB p = true ∧ 2 ≤ p.length ∧ p.length ≤ 6
 ·have hp := isOrd_of_order h.1
  simp only [h, and_self, decide_true, if_true]
  refine Ev.bind (lvFar_ev p.length h.2.1 h.2.2) ?_
  refine Ev.bind (alRank_ev p (by omega)) ?_
  have hr := rank_lt h.2.2 hp
  have g1 : (0 : Int) ≤ ((rankL p : Nat) : Int) := by omega
  have g2 : ((rankL p : Nat) : Int) < ((farQ p.length (depQ p.length)).length : Int) := by
   have : (farQ p.length (depQ p.length)).length = (allO p.length).length := by simp [farQ]
   omega
  simp only [g1, g2, if_true, far_at h.2.2 _ hp]
  exact Ev.now _
 ·rw [decide_eq_false h, if_neg h]
  simp only [Bool.false_eq_true, if_false]
  exact Ev.now _
theorem LeastDepth_impl (p : List Int) : Ev (fun k => impl_LeastDepth.f k p) (leastD p) := by
 unfold impl_LeastDepth.f leastD
 refine Ev.bind (isMade_ev p) ?_
 by_cases h : orderB p = true ∧ 2 ≤ p.length ∧ p.length ≤ 6
 ·have hp := isOrd_of_order h.1
  simp only [h, and_self, decide_true, if_true]
  refine Ev.bind (depths_ev p.length h.2.1 h.2.2) ?_
  obtain ⟨K, hK⟩ := keyOk_ev h.2.2 hp
  refine ⟨K, fun k hk => ?_⟩
  simp only [hK k hk, if_true, look_both _ h.2.2 hp]
 ·rw [decide_eq_false h, if_neg h]
  simp only [Bool.false_eq_true, if_false]
  exact Ev.now _
theorem rdR_nat (l : List (List Int)) (i : Nat) (hi : i < l.length) : rd_L2 l (i : Int) = l[i] := by
 unfold rd_L2; simp [hi]
def dpt : List (List Int) → Nat → Int → Int
 | [], _, a => a
 | r :: rs, j, a => dpt rs (j + 1) (if 0 < r.length then ((j + 1 : Nat) : Int) else a)
theorem depth_spec (rows : List (List Int)) (hr : rows.length ≤ 1000) : Ev (fun k => spec_BrickDepth.l0 k 0 rows (rows.length : Int) 0) (dpt rows 0 0, true) := by
 have key := Ev.upto (L := fun k j (s : Int) => spec_BrickDepth.l0 k s rows (rows.length : Int) (j : Int)) (R := fun j s => (dpt (rows.drop j) j s, true)) (n := rows.length)
  (fun s => by
   refine Ev.succ (Ev.ret fun k => ?_)
   rw [spec_BrickDepth.l0, if_neg (by omega), List.drop_length]; rfl)
  (fun j s hj ih => by
   refine Ev.succ ?_
   have h1 : (j : Int) < (rows.length : Int) := by omega
   have h0 : (0 : Int) ≤ (j : Int) := by omega
   simp only [spec_BrickDepth.l0, h1, h0, if_true, rdR_nat rows j hj, wrap_nat j _ hj (by omega)]
   rw [List.drop_eq_getElem_cons hj, dpt]
   refine Ev.ite (fun c => ?_) (fun c => ?_)
   ·rw [if_pos (by omega)]; exact ih _
   ·rw [if_neg (by omega)]; exact ih _)
 exact key 0 0 (Nat.zero_le _)
theorem depth_impl (rows : List (List Int)) (hr : rows.length ≤ 1000) : Ev (fun k => impl_BrickDepth.l0 k 0 rows (rows.length : Int) 0) (dpt rows 0 0, true) := by
 have key := Ev.upto (L := fun k j (s : Int) => impl_BrickDepth.l0 k s rows (rows.length : Int) (j : Int)) (R := fun j s => (dpt (rows.drop j) j s, true)) (n := rows.length)
  (fun s => by
   refine Ev.succ (Ev.ret fun k => ?_)
   rw [impl_BrickDepth.l0, if_neg (by omega), List.drop_length]; rfl)
  (fun j s hj ih => by
   refine Ev.succ ?_
   have h1 : (j : Int) < (rows.length : Int) := by omega
   have h0 : (0 : Int) ≤ (j : Int) := by omega
   simp only [impl_BrickDepth.l0, h1, h0, if_true, rdR_nat rows j hj, wrap_nat j _ hj (by omega)]
   rw [List.drop_eq_getElem_cons hj, dpt]
   refine Ev.ite (fun c => ?_) (fun c => ?_)
   ·rw [if_pos (by omega)]; exact ih _
   ·rw [if_neg (by omega)]; exact ih _)
 exact key 0 0 (Nat.zero_le _)
theorem BrickDepth_both (p : List Int) : ∃ r, Ev (fun k => spec_BrickDepth.f k p) r ∧ Ev (fun k => impl_BrickDepth.f k p) r := by
 by_cases h : orderB p = true ∧ 2 ≤ p.length
 ·have hn := ((orderB_iff p).1 h.1).1
  refine ⟨(dpt (routeP p.length p.length 0 p) 0 0, true), ?_, ?_⟩
  ·unfold spec_BrickDepth.f
   refine Ev.bind (BrickRoute_spec p) ?_
   unfold routeOf
   rw [if_pos h]
   simp only [if_true]
   exact depth_spec _ (by rw [routeP_length]; omega)
  ·unfold impl_BrickDepth.f impl_isLaid.f
   refine Ev.bind (a := true) (Ev.bind (isOrder_ev p) ?_) ?_
   ·have g : decide ((p.length : Int) ≥ 2) = true := decide_eq_true (by omega)
    simp only [h.1, if_true, g]; exact Ev.now _
   ·simp only [if_true]
    refine Ev.bind (route_ev p h.2 hn.2) ?_
    exact depth_impl _ (by rw [routeP_length]; omega)
 ·refine ⟨(0, false), ?_, ?_⟩
  ·unfold spec_BrickDepth.f
   refine Ev.bind (BrickRoute_spec p) ?_
   unfold routeOf
   rw [if_neg h]
   simp only [Bool.false_eq_true, if_false]
   exact Ev.now _
  ·unfold impl_BrickDepth.f impl_isLaid.f
   refine Ev.bind (a := false) (Ev.bind (isOrder_ev p) ?_) ?_
   ·by_cases h1 : orderB p = true
    ·have g : decide ((p.length : Int) ≥ 2) = false := decide_eq_false (by have h2 : ¬ 2 ≤ p.length := fun h2 => h ⟨h1, h2⟩; omega)
     simp only [h1, if_true, g]; exact Ev.now _
    ·have h1' : orderB p = false := by simpa using h1
     simp only [h1', Bool.false_eq_true, if_false]; exact Ev.now _
   ·simp only [Bool.false_eq_true, if_false]
    exact Ev.now _
theorem rdW_nat (l : List (List Int)) (i : Nat) (hi : i < l.length) : rd_L2 l (i : Int) = l[i] := by
 unfold rd_L2; simp [hi]
def widest : List (List Int) → Int → Int
 | [], m => m
 | x :: l, m => widest l (if m > (x.length : Int) then m else (x.length : Int))
theorem widest_spec (out : List (List Int)) (h : out.length ≤ 100000) : ∀ (d j : Nat) (m : Int), j + d = out.length → Ev (fun k => spec_WidestLevel.l0 k m out (out.length : Int) (j : Int)) (widest (out.drop j) m, true)
 | 0, j, m, hj => by
  refine Ev.succ (Ev.ret fun k => ?_)
  rw [spec_WidestLevel.l0, if_neg (by omega), List.drop_eq_nil_of_le (by omega)]; rfl
 | d + 1, j, m, hj => by
  have hlt : j < out.length := by omega
  refine Ev.succ ?_
  have g0 : (0 : Int) ≤ (j : Int) := by omega
  have g1 : (j : Int) < (out.length : Int) := by omega
  rw [List.drop_eq_getElem_cons hlt]
  simp only [spec_WidestLevel.l0, g0, g1, if_true, rdW_nat out j hlt, wrap_nat j out.length hlt (by omega)]
  have e : spec_l1Most.f m (out[j].length : Int) = some (if m > (out[j].length : Int) then m else (out[j].length : Int)) := by unfold spec_l1Most.f; split <;> rfl
  rw [e]
  exact widest_spec out h d (j + 1) _ (by omega)
theorem widest_impl (out : List (List Int)) (h : out.length ≤ 100000) : ∀ (d j : Nat) (m : Int), j + d = out.length → Ev (fun k => impl_WidestLevel.l0 k m out (out.length : Int) (j : Int)) (widest (out.drop j) m, true)
 | 0, j, m, hj => by
  refine Ev.succ (Ev.ret fun k => ?_)
  rw [impl_WidestLevel.l0, if_neg (by omega), List.drop_eq_nil_of_le (by omega)]; rfl
 | d + 1, j, m, hj => by
  have hlt : j < out.length := by omega
  refine Ev.succ ?_
  have g0 : (0 : Int) ≤ (j : Int) := by omega
  have g1 : (j : Int) < (out.length : Int) := by omega
  rw [List.drop_eq_getElem_cons hlt]
  have e : mx m (out[j].length : Int) = (if m > (out[j].length : Int) then m else (out[j].length : Int)) := by unfold mx; split <;> split <;> omega
  simp only [impl_WidestLevel.l0, g0, g1, if_true, rdW_nat out j hlt, wrap_nat j out.length hlt (by omega), e]
  exact widest_impl out h d (j + 1) _ (by omega)
theorem BrickRoute_impl (p : List Int) : Ev (fun k => impl_BrickRoute.f k p) (routeOf p) := by
 unfold impl_BrickRoute.f impl_isLaid.f routeOf
 by_cases h : orderB p = true ∧ 2 ≤ p.length
 ·have hn := ((orderB_iff p).1 h.1).1
  rw [if_pos h]
  refine Ev.bind (a := true) (Ev.bind (isOrder_ev p) ?_) ?_
  ·have g : decide ((p.length : Int) ≥ 2) = true := decide_eq_true (by omega)
   simp only [h.1, if_true, g]; exact Ev.now _
  ·simp only [if_true]
   exact Ev.bind (route_ev p h.2 hn.2) (Ev.now _)
 ·rw [if_neg h]
  refine Ev.bind (a := false) (Ev.bind (isOrder_ev p) ?_) ?_
  ·by_cases h1 : orderB p = true
   ·have g : decide ((p.length : Int) ≥ 2) = false := decide_eq_false (by have h2 : ¬ 2 ≤ p.length := fun h2 => h ⟨h1, h2⟩; omega)
    simp only [h1, if_true, g]; exact Ev.now _
   ·have h1' : orderB p = false := by simpa using h1
    simp only [h1', Bool.false_eq_true, if_false]; exact Ev.now _
  ·simp only [Bool.false_eq_true, if_false]
   exact Ev.now _
theorem nRows_same (l : List (List Int)) (hn : l.length ≤ 1000000) (hr : ∀ x, x ∈ l → x.length ≤ 1000000) : Ev (fun k => laws_nRows.f k l l) true := by
 unfold laws_nRows.f
 simp only [if_true]
 have key := Ev.upto (L := fun k j (_ : Unit) => laws_nRows.l0 k l l (l.length : Int) (j : Int)) (R := fun _ _ => true) (n := l.length)
  (fun _ => by
   refine Ev.succ (Ev.ret fun k => ?_)
   rw [laws_nRows.l0, if_neg (by omega)])
  (fun j _ hj ih => by
   refine Ev.succ ?_
   have h1 : (j : Int) < (l.length : Int) := by omega
   have h0 : (0 : Int) ≤ (j : Int) := by omega
   simp only [laws_nRows.l0, h1, h0, if_true, rd_rows l j hj, wrap_nat j _ hj (by omega)]
   refine Ev.bind (nSame_refl _ (by have := hr l[j] (List.getElem_mem hj); omega)) ?_
   simp only [if_true]
   exact ih ())
 exact key 0 () (Nat.zero_le _)
theorem nHas_ev (l : List Int) (v : Int) (hn : l.length ≤ 1000000) : Ev (fun k => laws_nHas.f k l v) (decide (v ∈ l)) := by
 unfold laws_nHas.f
 have key := Ev.upto (L := fun k j (_ : Unit) => laws_nHas.l0 k v l (l.length : Int) (j : Int)) (R := fun j _ => decide (v ∈ l.drop j)) (n := l.length)
  (fun _ => by
   refine Ev.succ (Ev.ret fun k => ?_)
   rw [laws_nHas.l0, if_neg (by omega), List.drop_length]; rfl)
  (fun j _ hj ih => by
   refine Ev.succ ?_
   have h1 : (j : Int) < (l.length : Int) := by omega
   have h0 : (0 : Int) ≤ (j : Int) := by omega
   simp only [laws_nHas.l0, h1, h0, if_true, rd_nat l j hj, wrap_nat j _ hj (by omega)]
   rw [List.drop_eq_getElem_cons hj]
   refine Ev.ite (fun c => ?_) (fun c => ?_)
   ·rw [decide_eq_true (by rw [c]; exact List.mem_cons_self)]
    exact Ev.now _
   ·have e : decide (v ∈ l[j] :: l.drop (j + 1)) = decide (v ∈ l.drop (j + 1)) := by
     refine decide_eq_decide.2 ?_
     rw [List.mem_cons]
     exact ⟨fun h => h.resolve_left fun e => c e.symm, .inr⟩
    rw [e]
    exact ih ())
 exact key 0 () (Nat.zero_le _)
theorem gap_len : ∀ (l : List Int) (a b : Int), l.Pairwise (fun x y => x + 2 ≤ y) → (∀ o, o ∈ l → a ≤ o ∧ o ≤ b) → a ≤ b + 2 → 2 * (l.length : Int) ≤ b + 2 - a
 | [], a, b, _, _, h => by simp; omega
 | o :: l, a, b, hp, hb, _ => by
  rw [List.pairwise_cons] at hp
  have ho := hb o (by simp)
  have := gap_len l (o + 2) b hp.2 (fun q hq => ⟨hp.1 q hq, (hb q (by simp [hq])).2⟩) (by omega)
  rw [List.length_cons]
  omega
theorem Lv.len {n : Nat} {l : List Int} (h : Lv n l) : 2 * l.length ≤ n := by
 cases hl : l with
 | nil => simp
 | cons x t =>
  have := h.2 x (by rw [hl]; simp)
  have h2 := gap_len l 0 ((n : Int) - 2) h.1 h.2 (by omega)
  rw [← hl]
  omega
theorem Lv.ap {n : Nat} {l : List Int} (h : Lv n l) : l.Pairwise ap := h.1.imp fun h => .inl h
theorem Lv.ok {n : Nat} {l : List Int} (h : Lv n l) : okRungs n l := fun r hr => by have := h.2 r hr; omega
theorem Lv.lvB {n : Nat} (hn1 : 2 ≤ n) (hn : n ≤ 8) {x : List Int} (h : Lv n x) : lvB (n : Int) x = true := by
 have hx := h.len
 have he := isLevel_ev (n : Int) x (by omega)
 refine Ev.uniq he ?_
 unfold impl_isLevel.f
 have e2 : wrap64 ((n : Int) - 2) = (n : Int) - 2 := wrap_in (by omega) (by omega)
 have key : ∀ d j : Nat, j + d = x.length → Ev (fun k => impl_isLevel.l0 k (n : Int) x x (x.length : Int) (j : Int)) true := by
  intro d
  induction d with
  | zero =>
   intro j hj
   refine Ev.succ ?_
   have g1 : ¬ (j : Int) < (x.length : Int) := by omega
   simp only [impl_isLevel.l0, g1, if_false]
   exact Ev.now _
  | succ d ih =>
   intro j hj
   have hjl : j < x.length := by omega
   have h1 : (j : Int) < (x.length : Int) := by omega
   have h0 : (0 : Int) ≤ (j : Int) := by omega
   have hb : impl_between.f x[j] 0 ((n : Int) - 2) = some true := by
    have := h.2 x[j] (List.getElem_mem hjl)
    unfold impl_between.f
    split <;> simp <;> omega
   refine Ev.succ ?_
   simp only [impl_isLevel.l0, h1, h0, if_true, rd_nat x j hjl, e2, hb, Option.bind_some, wrap_nat j _ hjl (by omega)]
   refine Ev.ite (fun hj0 => ?_) (fun _ => ih (j + 1) (by omega))
   have e3 : wrap64 ((j : Int) - 1) = ((j - 1 : Nat) : Int) := by unfold wrap64; omega
   have g1 : (0 : Int) ≤ ((j - 1 : Nat) : Int) := by omega
   have g2 : ((j - 1 : Nat) : Int) < (x.length : Int) := by omega
   have hg := List.pairwise_iff_getElem.1 h.1 (j - 1) j (by omega) hjl (by omega)
   have hq := h.2 x[j - 1] (List.getElem_mem (by omega))
   have g3 : ¬ x[j] < wrap64 (x[j - 1] + 2) := by rw [wrap_in (by omega) (by omega)]; omega
   simp only [e3, g1, g2, if_true, rd_nat x (j - 1) (by omega), g3, if_false]
   exact ih (j + 1) (by omega)
 exact key x.length 0 (by omega)
theorem IsLevel_made {n : Nat} (hn1 : 2 ≤ n) (hn : n ≤ 8) {x : List Int} (h : Lv n x) : Ev (fun k => impl_IsLevel.f k (n : Int) x) (true, true) := by
 have hx := h.len
 unfold impl_IsLevel.f impl_isWires.f
 have hin : inB (n : Int) 2 8 = true := (inB_iff _ _ _).2 (by omega)
 simp only [btw_f, Option.bind_some, hin, if_true]
 refine Ev.bind (isLevel_ev (n : Int) x (by omega)) ?_
 rw [h.lvB hn1 hn]
 exact Ev.now _
theorem Lol_made {n : Nat} (hn1 : 2 ≤ n) (hn : n ≤ 8) {L : List (List Int)} (hL : L.length ≤ 60) (hF : L.flatten.length ≤ 60) (h : ∀ x, x ∈ L → Lv n x) : Ev (fun k => impl_LadderOfLevels.f k (n : Int) L) ((n : Int), L.flatten, true) ∧ isLadderB (n : Int) L.flatten = true := by
 have hlad : isLadderB (n : Int) L.flatten = true := (isLadderB_iff _ _).2 ⟨by omega, by omega, hF, fun r hr => by
  obtain ⟨x, hx, hr⟩ := List.mem_flatten.1 hr
  exact (h x hx).2 r hr⟩
 refine ⟨?_, hlad⟩
 unfold impl_LadderOfLevels.f impl_isWires.f
 have hin : inB (n : Int) 2 8 = true := (inB_iff _ _ _).2 (by omega)
 have g1 : ¬ 60 < L.length := by omega
 simp only [btw_f, Option.bind_some, hin, if_true, g1, if_false]
 refine Ev.bind (levAll_ev (n : Int) L (fun x hx => by have := (h x hx).len; omega)) ?_
 have e : L.any (fun x => !(lvB (n : Int) x)) = false := by
  rw [List.any_eq_false]
  intro x hx
  rw [(h x hx).lvB hn1 hn]
  simp
 have g2 : L.flatten.length ≤ 10000000 := by omega
 simp only [e, Bool.false_eq_true, if_false, g2, if_true, checked_f]
 unfold ifLadder
 rw [if_pos hlad]
 exact Ev.now _
theorem ResultOf_made {n : Nat} {l : List Int} (h : isLadderB (n : Int) l = true) : Ev (fun k => impl_ResultOf.f k (n : Int) l) (res n l, true) := by
 have hl := (isLadderB_iff _ _).1 h
 unfold impl_ResultOf.f impl_isLadder.f
 simp only [Option.bind_some, h, if_true]
 exact Ev.bind (result_ev n l (by omega) (by omega)) (Ev.now _)
theorem levelsOf_val {n : Nat} {l : List Int} (h : isLadderB (n : Int) l = true) : Ev (fun k => impl_levelsOf.f k (n : Int) l) ((lvPuts [] l).map isoL) := by
 have hl := (isLadderB_iff _ l).1 h
 have hok0 : LevOk n [] := fun _ h => by cases h
 obtain ⟨hok, hlen⟩ := lvPuts_ok (by omega : n ≤ 8) l [] hl.2.2.2 hok0
 unfold impl_levelsOf.f
 have g : l.length ≤ 1000 := by omega
 simp only [g, if_true]
 exact sortAll_ev (by omega : n ≤ 8) _ hok
/-- what the law asks of levels that were made of rungs -/
theorem made_all {n : Nat} {l : List Int} (h : isLadderB (n : Int) l = true) : ∃ L, Made n l L ∧ L.length ≤ 60 ∧ L.flatten.length ≤ 60 ∧ Ev (fun k => impl_levelsOf.f k (n : Int) l) L ∧ Ev (fun k => spec_lvOf.f k (n : Int) l) L := by
 have hl := (isLadderB_iff _ l).1 h
 have hm := made_levels (n := n) (by omega) hl.2.2.2
 have hi := levelsOf_val h
 obtain ⟨r, hs, hi2, hlen, _⟩ := levels_both h
 have e := Ev.uniq hi2 hi
 refine ⟨_, hm, ?_, ?_, hi, e ▸ hs⟩
 ·rw [← e]; omega
 ·rw [hm.sl.perm.length_eq]; omega
theorem Lv.row {n : Nat} (hn : n ≤ 6) {x : List Int} (h : Lv n x) : x ∈ rowsL n := by
 rw [rows_lva n hn]
 have := h.len
 exact lva_all n 4 x 0 h.1 (fun o ho => by have := h.2 o ho; omega) (by omega)
theorem res_isOrd {n : Nat} (hn : n ≤ 1000) : ∀ (L : List (List Int)), (∀ x, x ∈ L → Lv n x) → isOrd n (res n L.flatten)
 | [], _ => idL_isOrd n
 | x :: L, h => by
  rw [List.flatten_cons, res_level hn _ x (h x (by simp)).ap (h x (by simp)).ok]
  exact topL_isOrd x (res_isOrd hn L fun y hy => h y (by simp [hy])) (h x (by simp)).ok
theorem dist_levels {n : Nat} (hn : n ≤ 6) : ∀ (L : List (List Int)), (∀ x, x ∈ L → Lv n x) → dist n (res n L.flatten) ≤ (L.length : Int)
 | [], _ => by
  show dist n (res n []) ≤ 0
  rw [res_nil, dist_id hn]
  exact Int.le_refl _
 | x :: L, h => by
  have ih := dist_levels hn L fun y hy => h y (by simp [hy])
  rw [List.flatten_cons, res_level (by omega) _ x (h x (by simp)).ap (h x (by simp)).ok, List.length_cons]
  have := dist_step hn (res_isOrd (by omega) L fun y hy => h y (by simp [hy])) ((h x (by simp)).row hn)
  omega
/-- the levels in the list of all are levels -/
theorem rows_Lv {n : Nat} (hn : n ≤ 6) {x : List Int} (h : x ∈ rowsL n) : Lv n x := by
 have key : ∀ (f : Nat) (x : List Int) (fr : Nat), x ∈ lva (n - 1) f fr → x.Pairwise (fun a b => a + 2 ≤ b) ∧ ∀ o, o ∈ x → (fr : Int) ≤ o ∧ o + 1 < (n : Int) := by
  intro f
  induction f with
  | zero => intro x fr h; rw [lva, List.mem_singleton] at h; subst h; exact ⟨List.Pairwise.nil, fun o ho => by cases ho⟩
  | succ f ih =>
   intro x fr h
   rw [lva] at h
   rcases List.mem_cons.1 h with rfl | h
   ·exact ⟨List.Pairwise.nil, fun o ho => by cases ho⟩
   ·obtain ⟨q, hq, h⟩ := List.mem_flatMap.1 h
    obtain ⟨y, hy, rfl⟩ := List.mem_map.1 h
    obtain ⟨h1, h2⟩ := ih y (q + 2) hy
    rw [List.mem_range'_1] at hq
    refine ⟨List.pairwise_cons.2 ⟨fun o ho => by have := h2 o ho; omega, h1⟩, fun o ho => ?_⟩
    rcases List.mem_cons.1 ho with rfl | ho
    ·omega
    ·have := h2 o ho; omega
 rw [rows_lva n hn] at h
 obtain ⟨h1, h2⟩ := key 4 x 0 h
 exact ⟨h1, fun o ho => by have := h2 o ho; omega⟩
theorem lvIn_some {D : List Int → Int} {p : List Int} {m : Nat} : ∀ {ls : List (List Int)} {l : List Int}, l ∈ ls → D (topL p l) = (m : Int) → ∃ s, lvIn D p m ls = some s ∧ s.1 ∈ ls ∧ s.2 = topL p s.1 ∧ D s.2 = (m : Int)
 | x :: ls, l, hl, hd => by
  rw [lvIn]
  by_cases c : D (topL p x) = (m : Int)
  ·rw [if_pos c]; exact ⟨_, rfl, by simp, rfl, c⟩
  ·rw [if_neg c]
   rcases List.mem_cons.1 hl with rfl | hl
   ·exact absurd hd c
   ·obtain ⟨s, h1, h2, h3, h4⟩ := lvIn_some hl hd
    exact ⟨s, h1, List.mem_cons_of_mem _ h2, h3, h4⟩
theorem lvGo_made {n : Nat} (hn : n ≤ 6) : ∀ (m : Nat) (p : List Int) (out : List (List Int)), isOrd n p → dist n p = (m : Int) → ∃ L, lvGo (lookF (depQ n)) (rowsL n) m p out = out ++ L ∧ L.length = m ∧ (∀ x, x ∈ L → Lv n x) ∧ res n L.flatten = p
 | 0, p, out, hp, hd => ⟨[], by rw [lvGo, List.append_nil], rfl, (fun x hx => by cases hx), (dist_zero hn hp hd).symm⟩
 | m + 1, p, out, hp, hd => by
  obtain ⟨q, hq, l, hl, e, hdq⟩ := dist_back hn hp (by omega)
  have hlv := rows_Lv hn hl
  have hb : topL p l = q := by rw [e]; exact topL_twice l q hlv.ap (by rw [hq.1]; exact hlv.ok)
  obtain ⟨s, h1, h2, h3, h4⟩ := lvIn_some (D := lookF (depQ n)) (p := p) (m := m) hl (by rw [hb]; show dist n q = _; omega)
  have hs := rows_Lv hn h2
  have ho : isOrd n s.2 := by rw [h3]; exact topL_isOrd _ hp hs.ok
  obtain ⟨L, g1, g2, g3, g4⟩ := lvGo_made hn m s.2 (out ++ [s.1]) ho h4
  refine ⟨s.1 :: L, ?_, by simp [g2], fun x hx => ?_, ?_⟩
  ·rw [lvGo, h1]
   simp only
   rw [g1, List.append_assoc]; rfl
  ·rcases List.mem_cons.1 hx with rfl | hx
   ·exact hs
   ·exact g3 x hx
  ·rw [List.flatten_cons, res_level (by omega) _ _ hs.ap hs.ok, g4, h3, topL_twice _ _ hs.ap (by rw [hp.1]; exact hs.ok)]
theorem flat_len {n m : Nat} : ∀ (L : List (List Int)), (∀ x, x ∈ L → Lv n x) → L.length ≤ m → 2 * L.flatten.length ≤ m * n
 | [], _, _ => by simp
 | x :: L, h, hm => by
  obtain ⟨m, rfl⟩ : ∃ q, m = q + 1 := ⟨m - 1, by simp at hm; omega⟩
  have := flat_len (m := m) L (fun y hy => h y (by simp [hy])) (by simpa using hm)
  have h1 := (h x (by simp)).len
  have e := Nat.add_mul m 1 n
  rw [Nat.one_mul] at e
  rw [List.flatten_cons, List.length_append]
  generalize (m + 1) * n = A at e
  generalize m * n = B at e this
  omega
/-- the least levels of an order -/
theorem least_made {p : List Int} (h : orderB p = true ∧ 2 ≤ p.length ∧ p.length ≤ 6) : ∃ L, leastLv p = (L, true) ∧ leastD p = ((L.length : Int), true) ∧ L.length ≤ p.length ∧ (∀ x, x ∈ L → Lv p.length x) ∧ res p.length L.flatten = p := by
 have hp := isOrd_of_order h.1
 have h0 := dist_pos h.2.2 hp
 obtain ⟨L, g1, g2, g3, g4⟩ := lvGo_made h.2.2 (dist p.length p).toNat p [] hp (by omega)
 have hle := dist_le h.2.2 hp
 refine ⟨L, ?_, ?_, by omega, g3, g4⟩
 ·unfold leastLv
  rw [if_pos h]
  rw [List.nil_append] at g1
  exact Prod.ext g1 rfl
 ·unfold leastD
  rw [if_pos h]
  refine Prod.ext ?_ rfl
  show dist p.length p = _
  omega
theorem routeP_at (n : Nat) : ∀ (m j : Nat) (p : List Int) (i : Nat), (h : i < (routeP n m j p).length) → Lv n (routeP n m j p)[i] ∧ ∀ r, r ∈ (routeP n m j p)[i] → r % 2 = ((j + i : Nat) : Int) % 2
 | 0, _, _, _, h => by simp [routeP] at h
 | m + 1, j, p, 0, h => by
  have e : (routeP n (m + 1) j p)[0] = lvlOf n j p := rfl
  rw [e]
  exact ⟨⟨lvlOf_gap n j p, fun o ho => by have := lvlOf_ok n j p o ho; omega⟩, lvlOf_par n j p⟩
 | m + 1, j, p, i + 1, h => by
  have e : (routeP n (m + 1) j p)[i + 1] = (routeP n m (j + 1) (topL p (lvlOf n j p)))[i]'(by simpa [routeP] using h) := rfl
  rw [e]
  have := routeP_at n m (j + 1) (topL p (lvlOf n j p)) i (by simpa [routeP] using h)
  rwa [show j + 1 + i = j + (i + 1) by omega] at this
theorem dpt_ge : ∀ (L : List (List Int)) (j : Nat) (a : Int), a ≤ (j : Int) → a ≤ dpt L j a ∧ dpt L j a ≤ ((j + L.length : Nat) : Int)
 | [], j, a, h => ⟨Int.le_refl _, by simpa [dpt] using h⟩
 | x :: L, j, a, h => by
  rw [dpt]
  have := dpt_ge L (j + 1) (if 0 < x.length then ((j + 1 : Nat) : Int) else a) (by split <;> omega)
  rw [List.length_cons]
  split at this <;> split <;> omega
theorem dpt_full : ∀ (L : List (List Int)) (j : Nat) (a : Int), a ≤ (j : Int) → ∀ i, (h : i < L.length) → L[i] ≠ [] → ((j + i : Nat) : Int) < dpt L j a
 | x :: L, j, a, ha, 0, h, hne => by
  rw [dpt]
  have hx : 0 < x.length := List.length_pos_iff.2 hne
  rw [if_pos hx]
  have := (dpt_ge L (j + 1) ((j + 1 : Nat) : Int) (Int.le_refl _)).1
  omega
 | x :: L, j, a, ha, i + 1, h, hne => by
  rw [dpt]
  have := dpt_full L (j + 1) (if 0 < x.length then ((j + 1 : Nat) : Int) else a) (by split <;> omega) i (by simpa using h) hne
  omega
theorem BrickDepth_val {p : List Int} (h : orderB p = true ∧ 2 ≤ p.length) : Ev (fun k => spec_BrickDepth.f k p) (dpt (routeP p.length p.length 0 p) 0 0, true) ∧ Ev (fun k => impl_BrickDepth.f k p) (dpt (routeP p.length p.length 0 p) 0 0, true) := by
 have hn := ((orderB_iff p).1 h.1).1
 have hi : Ev (fun k => impl_BrickDepth.f k p) (dpt (routeP p.length p.length 0 p) 0 0, true) := by
  unfold impl_BrickDepth.f impl_isLaid.f
  refine Ev.bind (a := true) (Ev.bind (isOrder_ev p) ?_) ?_
  ·have g : decide ((p.length : Int) ≥ 2) = true := decide_eq_true (by omega)
   simp only [h.1, if_true, g]; exact Ev.now _
  ·simp only [if_true]
   refine Ev.bind (route_ev p h.2 hn.2) ?_
   exact depth_impl _ (by rw [routeP_length]; omega)
 obtain ⟨r, hs, hi2⟩ := BrickDepth_both p
 exact ⟨(Ev.uniq hi2 hi) ▸ hs, hi⟩
theorem InversionsOf_val {p : List Int} (h : orderB p = true) : Ev (fun k => impl_InversionsOf.f k p) (((invs p : Nat) : Int), true) := by
 have hn := ((orderB_iff p).1 h).1
 unfold impl_InversionsOf.f
 refine Ev.bind (isOrder_ev p) ?_
 simp only [h, if_true]
 refine Ev.bind (a := ((invs p : Nat) : Int)) ?_ (Ev.now _)
 unfold impl_inversions.f
 refine Ev.bind (inverted_ev p (by omega)) ?_
 rw [ips_invs]
 exact Ev.now _
theorem invs_few {p : List Int} (h : p.length ≤ 8) : invs p ≤ 28 := by
 have h1 := invs_le p
 have : p.length * p.length ≤ 8 * p.length := Nat.mul_le_mul_right _ h
 omega
theorem sure_l0 {c : List Int} (hc : Bytes c) (w : Int) (hw : 0 ≤ w ∧ w ≤ 200) (d : Nat) : ∀ (x a s : Int) (n : Nat) (l : List Int), x ≤ (d : Int) → Far a n → n + d ≤ 1000000 → l.length + d ≤ 1000000 →
  Got (fun k => spec_l1Cur_sureLadder.l0 k x c a s w l) (fun r => r.1 = w ∧ r.2.1.length ≤ l.length + d ∧ Far r.2.2.1 (n + d)) := by
 induction d with
 | zero =>
  intro x a s n l hx ha _ _
  refine Got.succ ?_
  simp only [spec_l1Cur_sureLadder.l0]
  refine Got.ifn (by omega) ?_
  exact Got.now _ ⟨rfl, Nat.le_refl _, ha⟩
 | succ d ih =>
  intro x a s n l hx ha hn hl
  refine Got.succ ?_
  simp only [spec_l1Cur_sureLadder.l0]
  by_cases h : x > 0
  ·simp only [h, if_true]
   refine Got.bind (Got.one (pick_got hc ha (by omega) (wrap64 (w - 1)) ?_)) (fun r hr => ?_)
   ·rw [wrap_in (by omega) (by omega)]; omega
   ·have hx1 : wrap64 (x - 1) = x - 1 := wrap_in (by omega) (by omega)
    rw [hx1]
    refine Got.ifp (by omega) ?_
    refine (ih (x - 1) _ _ (n + 1) _ (by omega) hr.2.2.2 (by omega) (by simp; omega)).mono (fun q hq => ?_)
    refine ⟨hq.1, ?_, hq.2.2.le (by omega)⟩
    have := hq.2.1
    simp at this
    omega
  ·simp only [h, if_false]
   exact Got.now _ ⟨rfl, by simp, ha.le (by omega)⟩
theorem sure_got {c : List Int} {a s : Int} {n : Nat} (hc : Bytes c) (ha : Far a n) (hn : n ≤ 500000) (w : Int) (m : Nat) (hw : 2 ≤ w ∧ w ≤ 100) (hm : m ≤ 100) : Got (fun k => spec_l1Cur_sureLadder.f k c a s w (m : Int)) (fun r => 2 ≤ r.1 ∧ r.1 ≤ w ∧ r.2.1.length ≤ m ∧ Far r.2.2.1 (n + 2 + m)) := by
 unfold spec_l1Cur_sureLadder.f
 have e1 : wrap64 (w - 1) = w - 1 := wrap_in (by omega) (by omega)
 have e2 : wrap64 ((m : Int) + 1) = (m : Int) + 1 := wrap_in (by omega) (by omega)
 rw [e1, e2]
 refine Got.bind (Got.one (pick_got hc ha (by omega) (w - 1) (by omega))) (fun r hr => ?_)
 obtain ⟨r0, r1, r2, rf⟩ := hr
 have r3 := r2 (by omega)
 refine Got.bind (Got.one (pick_got hc rf (by omega) ((m : Int) + 1) (by omega))) (fun q hq => ?_)
 obtain ⟨q0, q1, q2, qf⟩ := hq
 have q3 := q2 (by omega)
 have e3 : wrap64 (2 + r.1) = 2 + r.1 := wrap_in (by omega) (by omega)
 rw [e3]
 refine (sure_l0 hc (2 + r.1) (by omega) m q.1 q.2.1 q.2.2 (n + 1 + 1) [] (by omega) qf (by omega) (by simp; omega)).mono (fun z hz => ?_)
 obtain ⟨z1, z2, z3⟩ := hz
 simp at z2
 exact ⟨by omega, by omega, z2, z3.le (by omega)⟩
theorem ladder_got {c : List Int} {a s : Int} {n : Nat} (hc : Bytes c) (ha : Far a n) (hn : n ≤ 400000) : Got (fun k => spec_l1Cur_ladder.f k c a s) (fun r => r.2.1.length ≤ 62 ∧ Far r.2.2.1 (n + 20)) := by
 unfold spec_l1Cur_ladder.f
 refine Got.bind (sure_got hc ha (by omega) 6 12 (by omega) (by omega)) (fun r hr => ?_)
 obtain ⟨r1, r2, r3, rf⟩ := hr
 refine Got.bind (Got.one (pick_got hc rf (by omega) 16 (by omega))) (fun q hq => ?_)
 obtain ⟨q0, q1, q2, qf⟩ := hq
 refine Got.ite (fun _ => ?_) (fun _ => Got.ite (fun _ => ?_) (fun _ => Got.ite (fun _ => ?_) (fun _ => ?_)))
 ·refine Got.bind (Got.one (among_got hc qf (by omega) _ (by simp))) (fun z hz => ?_)
  refine Got.ifp (by omega) ?_
  exact Got.now _ ⟨by simp; omega, hz.2.le (by omega)⟩
 ·refine Got.bind (Got.one (among_got hc qf (by omega) _ (by simp))) (fun z hz => ?_)
  exact Got.now _ ⟨by simp only; omega, hz.2.le (by omega)⟩
 ·refine Got.bind (Got.one (pick_got hc qf (by omega) 2 (by omega))) (fun z hz => ?_)
  obtain ⟨z0, z1, z2, zf⟩ := hz
  have z3 := z2 (by omega)
  have e : wrap64 (60 + z.1) = 60 + z.1 := wrap_in (by omega) (by omega)
  rw [e]
  refine Got.ifp (by omega) (Got.ifp (by omega) ?_)
  exact Got.now _ ⟨by rw [List.length_replicate]; omega, zf.le (by omega)⟩
 ·exact Got.now _ ⟨by simp only; omega, qf.le (by omega)⟩
theorem sureO_l0 {c : List Int} (hc : Bytes c) (w : Int) (d : Nat) : ∀ (i : Nat) (p s : Int) (n : Nat) (l : List Int), (i : Int) + d = w → l.length = i → i + d ≤ 100 → Far p n → n + d ≤ 1000000 →
  Got (fun k => spec_l1Cur_sureOrder.l0 k w l (i : Int) c p s) (fun r => r.1.length = i + d ∧ Far r.2.1 (n + d)) := by
 induction d with
 | zero =>
  intro i p s n l hw hl hi hp hn
  refine Got.succ ?_
  simp only [spec_l1Cur_sureOrder.l0]
  refine Got.ifn (by omega) ?_
  exact Got.now _ ⟨by simp only; omega, hp⟩
 | succ d ih =>
  intro i p s n l hw hl hi hp hn
  refine Got.succ ?_
  simp only [spec_l1Cur_sureOrder.l0]
  refine Got.ifp (by omega) ?_
  have e1 : wrap64 ((l.length : Int) + 1) = (l.length : Int) + 1 := wrap_in (by omega) (by omega)
  rw [e1]
  refine Got.bind (Got.one (pick_got hc hp (by omega) _ (by omega))) (fun r hr => ?_)
  obtain ⟨r0, r1, r2, rf⟩ := hr
  have r3 := r2 (by omega)
  refine Got.ifp (by omega) (Got.ifp (by omega) ?_)
  have hlt : (l.take r.1.toNat).length ≤ l.length := by rw [List.length_take]; omega
  rw [l1Own_f _ (by omega)]
  simp only [Option.bind_some]
  refine Got.ifp (by omega) ?_
  have e2 : (l.take r.1.toNat ++ [(i : Int)] ++ l.drop r.1.toNat).length = i + 1 := by
   simp only [List.length_append, List.length_take, List.length_drop, List.length_singleton]; omega
  refine Got.ifp (by rw [← List.length_append, e2]; omega) ?_
  rw [wrap_nat i 1000 (by omega) (by omega)]
  refine (ih (i + 1) _ _ (n + 1) _ (by omega) e2 (by omega) rf (by omega)).mono (fun q hq => ?_)
  exact ⟨by omega, hq.2.le (by omega)⟩
theorem sureO_got {c : List Int} {p s : Int} {n : Nat} (hc : Bytes c) (hp : Far p n) (hn : n ≤ 900000) (w : Nat) (hw : w ≤ 100) : Got (fun k => spec_l1Cur_sureOrder.f k c p s (w : Int)) (fun r => r.1.length = w ∧ Far r.2.1 (n + w)) := by
 unfold spec_l1Cur_sureOrder.f
 refine (sureO_l0 hc (w : Int) w 0 p s n [] (by omega) rfl (by omega) hp (by omega)).mono (fun q hq => ?_)
 exact ⟨by omega, hq.2⟩
theorem order_got {c : List Int} {p s : Int} {n : Nat} (hc : Bytes c) (hp : Far p n) (hn : n ≤ 400000) : Got (fun k => spec_l1Cur_order.f k c p s) (fun r => r.1.length ≤ 9) := by
 unfold spec_l1Cur_order.f
 refine Got.bind (Got.one (pick_got hc hp (by omega) 6 (by omega))) (fun r hr => ?_)
 obtain ⟨r0, r1, r2, rf⟩ := hr
 have r3 := r2 (by omega)
 obtain ⟨u, hu⟩ : ∃ u : Nat, r.1 = u := ⟨r.1.toNat, by omega⟩
 have e1 : wrap64 (1 + r.1) = ((1 + u : Nat) : Int) := by rw [hu]; unfold wrap64; omega
 rw [e1]
 refine Got.bind (sureO_got hc rf (by omega) (1 + u) (by omega)) (fun q hq => ?_)
 obtain ⟨hq1, hqf⟩ := hq
 refine Got.bind (Got.one (pick_got hc hqf (by omega) 14 (by omega))) (fun z hz => ?_)
 obtain ⟨z0, z1, z2, zf⟩ := hz
 refine Got.ite (fun _ => ?_) (fun _ => Got.ite (fun _ => ?_) (fun _ => Got.ite (fun _ => ?_) (fun _ => ?_)))
 ·refine Got.bind (Got.one (pick_got hc zf (by omega) (q.1.length : Int) (by omega))) (fun y hy => ?_)
  obtain ⟨y0, y1, y2, yf⟩ := hy
  have y3 := y2 (by omega)
  refine Got.bind (Got.one (among_got hc yf (by omega) _ (by simp))) (fun x hx => ?_)
  refine Got.ifp (by omega) (Got.ifp (by omega) ?_)
  exact Got.now _ (by simp only [List.length_set]; omega)
 ·exact Got.now _ (by simp)
 ·refine Got.bind (Got.one (pick_got hc zf (by omega) 2 (by omega))) (fun y hy => ?_)
  obtain ⟨y0, y1, y2, yf⟩ := hy
  have y3 := y2 (by omega)
  obtain ⟨v, hv⟩ : ∃ u : Nat, y.1 = u := ⟨y.1.toNat, by omega⟩
  have e2 : wrap64 (8 + y.1) = ((8 + v : Nat) : Int) := by rw [hv]; unfold wrap64; omega
  rw [e2]
  refine Got.bind (sureO_got hc yf (by omega) (8 + v) (by omega)) (fun x hx => ?_)
  exact Got.now _ (by simp only; omega)
 ·exact Got.now _ (by simp only; omega)
theorem drawBrickRoute_got {c : List Int} (hc : Bytes c) : Got (fun k => spec_DrawBrickRoute.f k c) (fun r => r.length ≤ 9) := by
 unfold spec_DrawBrickRoute.f
 exact Got.bind (order_got hc Far.zero (by omega)) (fun r hr => Got.now _ hr)
theorem drawLeastLevels_got {c : List Int} (hc : Bytes c) : Got (fun k => spec_DrawLeastLevels.f k c) (fun r => r.length ≤ 9) := by
 unfold spec_DrawLeastLevels.f spec_DrawLeastDepth.f spec_l1Cur_few.f
 refine Got.bind (P := fun r => r.length ≤ 9) (Got.bind (P := fun r => r.1.length ≤ 9) ?_ (fun r hr => Got.now _ hr)) (fun r hr => Got.now _ hr)
 refine Got.bind (Got.one (one_got hc Far.zero (by omega) 14 (by omega))) (fun r hr => ?_)
 refine Got.iteb (fun _ => ?_) (fun _ => ?_)
 ·exact Got.bind (order_got hc hr (by omega)) (fun q hq => Got.now _ hq)
 ·have e0 : wrap64 (5 - 1) = 4 := wrap_in (i := 5 - 1) (by omega) (by omega)
  rw [e0]
  refine Got.bind (Got.one (pick_got hc hr (by omega) 4 (by omega))) (fun q hq => ?_)
  obtain ⟨r0, r1, r2, rf⟩ := hq
  have r3 := r2 (by omega)
  obtain ⟨u, hu⟩ : ∃ u : Nat, q.1 = u := ⟨q.1.toNat, by omega⟩
  have e1 : wrap64 (2 + q.1) = ((2 + u : Nat) : Int) := by rw [hu]; unfold wrap64; omega
  rw [e1]
  refine Got.bind (sureO_got hc rf (by omega) (2 + u) (by omega)) (fun x hx => ?_)
  exact Got.now _ (by simp only; omega)
theorem drawLevelsOf_got {c : List Int} (hc : Bytes c) : Got (fun k => spec_DrawLevelsOf.f k c) (fun r => r.2.length ≤ 62) := by
 unfold spec_DrawLevelsOf.f
 exact Got.bind (ladder_got hc Far.zero (by omega)) (fun r hr => Got.now _ hr.1)
theorem isLadder_two (a : Int) (l : List Int) : impl_IsLadder.f a l = some (isLadderB a l) := by
 unfold impl_IsLadder.f impl_isLadder.f
 rfl
theorem lm_l3 (D : Int) (L : List (List Int)) (hL : L.length ≤ 100) (hx : ∀ i, (h : i < L.length) → L[i].length ≤ 100 ∧ (L[i] ≠ [] → (i : Int) < D) ∧ ∀ r, r ∈ L[i] → 0 ≤ r ∧ r ≤ 1000 ∧ r % 2 = (i : Int) % 2) (d : Nat) : ∀ (j : Nat), j + d = L.length → Ev (fun k => laws_FnLevelsMade.l3 k D L (L.length : Int) (j : Int)) true := by
 induction d with
 | zero =>
  intro j hj
  refine Ev.succ ?_
  have g1 : ¬ (j : Int) < (L.length : Int) := by omega
  simp only [laws_FnLevelsMade.l3, g1, if_false]
  exact Ev.now _
 | succ d ih =>
  intro j hj
  have hjl : j < L.length := by omega
  refine Ev.succ ?_
  have g1 : (j : Int) < (L.length : Int) := by omega
  have g2 : (0 : Int) ≤ (j : Int) := by omega
  simp only [laws_FnLevelsMade.l3, g1, g2, if_true, rd_rows L j hjl]
  obtain ⟨x1, x2, x3⟩ := hx j hjl
  generalize L[j] = x at x1 x2 x3
  have key : ∀ (e i : Nat), i + e = x.length → Ev (fun k => laws_FnLevelsMade.l4 k D (j : Int) L (L.length : Int) (j : Int) x (x.length : Int) (i : Int)) true := by
   intro e
   induction e with
   | zero =>
    intro i hi
    refine Ev.succ ?_
    have g1 : ¬ (i : Int) < (x.length : Int) := by omega
    simp only [laws_FnLevelsMade.l4, g1, if_false, wrap_nat j _ hjl (by omega)]
    exact ih (j + 1) (by omega)
   | succ e ihe =>
    intro i hi
    have hil : i < x.length := by omega
    refine Ev.succ ?_
    have h1 : (i : Int) < (x.length : Int) := by omega
    have h2 : (0 : Int) ≤ (i : Int) := by omega
    obtain ⟨y0, y1, y2⟩ := x3 x[i] (List.getElem_mem hil)
    have h3 : Int.tmod x[i] 2 = Int.tmod (j : Int) 2 := by
     rw [Int.tmod_eq_emod_of_nonneg y0, Int.tmod_eq_emod_of_nonneg (by omega)]
     exact y2
    have hne : x ≠ [] := fun e => by rw [e] at hil; simp at hil
    have h4 : ¬ (j : Int) ≥ D := by have := x2 hne; omega
    simp only [laws_FnLevelsMade.l4, h1, h2, if_true, rd_nat x i hil, h3, h4, if_false, wrap_nat i _ hil (by omega)]
    exact ihe (i + 1) (by omega)
  exact key x.length 0 (by omega)
theorem lm_j5 {c : List Int} (hc : Bytes c) : Ev (fun k => laws_FnLevelsMade.j5 k c) true := by
 refine Ev.succ ?_
 simp only [laws_FnLevelsMade.j5]
 obtain ⟨q, hq, hql⟩ := drawBrickRoute_got hc
 have hs := BrickRoute_spec q
 have hi := BrickRoute_impl q
 refine Ev.bind hq (Ev.bind hi (Ev.bind hs ?_))
 by_cases h : orderB q = true ∧ 2 ≤ q.length
 ·have hn := ((orderB_iff q).1 h.1).1
  have hp := isOrd_of_order h.1
  obtain ⟨n, hnq⟩ : ∃ n, q.length = n := ⟨_, rfl⟩
  obtain ⟨b1, b2⟩ := BrickDepth_val h
  have e : routeOf q = (routeP n n 0 q, true) := by unfold routeOf; rw [if_pos h, hnq]
  rw [e]
  rw [hnq] at hp b1 b2
  have hnet := net_sorts (by omega) hp
  have hrl : (routeP n n 0 q).length = n := routeP_length n n 0 q
  have hfl := route_count (by omega) n 0 q hp hnet
  have hres := route_res (by omega) n 0 q hp hnet
  have hinv := invs_few (p := q) (by omega)
  have hat := fun i (hi : i < (routeP n n 0 q).length) => routeP_at n n 0 q i hi
  obtain ⟨hd1, hd2⟩ := dpt_ge (routeP n n 0 q) 0 0 (Int.le_refl _)
  have hfull := dpt_full (routeP n n 0 q) 0 0 (Int.le_refl _)
  have hlv : ∀ x, x ∈ routeP n n 0 q → Lv n x := fun x hx => by
   obtain ⟨i, hi, rfl⟩ := List.getElem_of_mem hx
   exact (hat i hi).1
  obtain ⟨hm, hlad⟩ := Lol_made (n := n) (by omega) (by omega) (by omega) (by omega) hlv
  have hr := ResultOf_made hlad
  rw [hres] at hr
  refine Ev.bind b2 (Ev.bind b1 ?_)
  simp only [bne_self_eq_false, Bool.false_eq_true, if_false]
  refine Ev.bind (nRows_same _ (by omega) (fun x hx => by have := (hlv x hx).len; omega)) ?_
  simp only [if_true, hnq]
  refine Ev.bind hm ?_
  refine Ev.bind hr ?_
  refine Ev.bind (InversionsOf_val h.1) ?_
  have g1 : ((routeP n n 0 q).length : Int) = (n : Int) := by rw [hrl]
  have g2 : ¬ dpt (routeP n n 0 q) 0 0 > (n : Int) := by omega
  have g3 : (((routeP n n 0 q).flatten.length : Int)) = ((invs q : Nat) : Int) := by rw [hfl]
  simp only [g1, if_true]
  refine Ev.bind (nSame_refl _ (by omega)) ?_
  simp only [if_true, g2, if_false, g3]
  have := lm_l3 (dpt (routeP n n 0 q) 0 0) (routeP n n 0 q) (by omega) (fun i hi => by
   obtain ⟨a1, a2⟩ := hat i hi
   have a3 := a1.len
   refine ⟨by omega, fun hne => by have := hfull i hi hne; omega, fun r hr => ?_⟩
   have b1 := a1.2 r hr
   have b2 := a2 r hr
   exact ⟨by omega, by omega, by omega⟩) _ 0 (Nat.zero_add _)
  rw [hrl] at this
  exact this
 ·have e : routeOf q = ([], false) := by unfold routeOf; rw [if_neg h]
  rw [e]
  obtain ⟨r, b1, b2⟩ := BrickDepth_both q
  have b3 : Ev (fun k => spec_BrickDepth.f k q) (0, false) := by
   unfold spec_BrickDepth.f
   refine Ev.bind hs ?_
   rw [e]
   simp only [Bool.false_eq_true, if_false]
   exact Ev.now _
  have e2 := Ev.uniq b1 b3
  subst e2
  refine Ev.bind b2 (Ev.bind b1 ?_)
  simp only [bne_self_eq_false, Bool.false_eq_true, if_false]
  refine Ev.bind (nRows_same [] (by simp) (fun x hx => by cases hx)) ?_
  simp only [if_true]
  exact Ev.now _
theorem lm_j4 {c : List Int} (hc : Bytes c) : Ev (fun k => laws_FnLevelsMade.j4 k c) true := by
 refine Ev.succ ?_
 simp only [laws_FnLevelsMade.j4]
 obtain ⟨p, hp, hpl⟩ := drawLeastLevels_got hc
 refine Ev.bind hp (Ev.bind (LeastLevels_impl p) (Ev.bind (LeastLevels_spec p) (Ev.bind (LeastDepth_impl p) (Ev.bind (LeastDepth_spec p) ?_))))
 by_cases h : orderB p = true ∧ 2 ≤ p.length ∧ p.length ≤ 6
 ·obtain ⟨L, e1, e2, hL, hlv, hres⟩ := least_made h
  rw [e1, e2]
  obtain ⟨n, hn⟩ : ∃ n, p.length = n := ⟨_, rfl⟩
  rw [hn] at hL hlv hres h
  have hfl := flat_len (m := 6) L hlv (by omega)
  have hfl2 : 6 * n ≤ 36 := by omega
  obtain ⟨hm, hlad⟩ := Lol_made (n := n) (by omega) (by omega) (by omega) (by omega) hlv
  have hr := ResultOf_made hlad
  rw [hres] at hr
  simp only [bne_self_eq_false, Bool.false_eq_true, if_false]
  refine Ev.bind (nRows_same _ (by omega) (fun x hx => by have := (hlv x hx).len; omega)) ?_
  simp only [if_true, hn]
  refine Ev.bind hm (Ev.bind hr ?_)
  simp only [if_true]
  refine Ev.bind (nSame_refl _ (by omega)) ?_
  have g : ¬ (L.length : Int) > (n : Int) := by omega
  simp only [if_true, g, if_false]
  exact lm_j5 hc
 ·have e1 : leastLv p = ([], false) := by unfold leastLv; rw [if_neg h]
  have e2 : leastD p = (0, false) := by unfold leastD; rw [if_neg h]
  rw [e1, e2]
  simp only [bne_self_eq_false, Bool.false_eq_true, if_false]
  refine Ev.bind (nRows_same [] (by simp) (fun x hx => by cases hx)) ?_
  simp only [if_true]
  exact lm_j5 hc
theorem lm_l0 {c : List Int} (hc : Bytes c) (n : Nat) (hn1 : 2 ≤ n) (hn : n ≤ 8) (l : List Int) (L : List (List Int)) (hm : Made n l L) (hL : L.length ≤ 60) (hres : orderB (res n l) = true) (hdist : n ≤ 6 → leastD (res n l) = (dist n (res n l), true) ∧ dist n (res n l) ≤ (L.length : Int)) (W : Int) (hW : W = widest L 0) (ls : List Int) (d : Nat) :
  ∀ (j : Nat) (m : Int), j + d = L.length → widest (L.drop j) m = W → 0 ≤ m → Ev (fun k => laws_FnLevelsMade.l0 k c L (L.length : Int) W (res n l) m L (L.length : Int) (j : Int) (n : Int) ls) true := by
 induction d with
 | zero =>
  intro j m hj hw _
  refine Ev.succ ?_
  have g1 : ¬ (j : Int) < (L.length : Int) := by omega
  rw [List.drop_eq_nil_of_le (by omega)] at hw
  have hw : m = W := hw
  simp only [laws_FnLevelsMade.l0, g1, if_false, hw, if_true]
  refine Ev.ite (fun h6 => ?_) (fun _ => lm_j4 hc)
  obtain ⟨e1, e2⟩ := hdist (by omega)
  refine Ev.bind (LeastDepth_impl _) ?_
  rw [e1]
  have g : ¬ dist n (res n l) > (L.length : Int) := by omega
  simp only [if_true, g, if_false]
  exact lm_j4 hc
 | succ d ih =>
  intro j m hj hw hm0
  have hjl : j < L.length := by omega
  refine Ev.succ ?_
  have g1 : (j : Int) < (L.length : Int) := by omega
  have g2 : (0 : Int) ≤ (j : Int) := by omega
  obtain ⟨x1, x2⟩ := hm.lev L[j] (List.getElem_mem hjl)
  have x3 := x1.len
  simp only [laws_FnLevelsMade.l0, g1, g2, if_true, rd_rows L j hjl]
  refine Ev.bind (IsLevel_made hn1 hn x1) ?_
  have hpos := List.length_pos_iff.2 x2
  have g3 : ¬ (L[j].length : Int) = 0 := by omega
  simp only [if_true, g3, if_false]
  rw [List.drop_eq_getElem_cons hjl, widest] at hw
  -- behind the choice of the greatest
  have next : ∀ m2 : Int, m2 = (if m > (L[j].length : Int) then m else (L[j].length : Int)) → Ev (fun k => laws_FnLevelsMade.j1 k c L (L.length : Int) W (res n l) m2 (j : Int) L (L.length : Int) (j : Int) (n : Int) ls) true := by
   intro m2 hm2
   refine Ev.succ ?_
   simp only [laws_FnLevelsMade.j1, rd_rows L j hjl]
   have hgo : ∀ e i : Nat, i + e = L[j].length → Ev (fun k => laws_FnLevelsMade.l1 k c L (L.length : Int) W (res n l) m2 (j : Int) L (L.length : Int) (j : Int) L[j] (L[j].length : Int) (i : Int) (n : Int) ls) true := by
    intro e
    induction e with
    | zero =>
     intro i hi
     refine Ev.succ ?_
     have k1 : ¬ (i : Int) < (L[j].length : Int) := by omega
     simp only [laws_FnLevelsMade.l1, k1, if_false, wrap_nat j _ hjl (by omega)]
     exact ih (j + 1) m2 (by omega) (by rw [hm2]; exact hw) (by rw [hm2]; split <;> omega)
    | succ e ihe =>
     intro i hi
     have hil : i < L[j].length := by omega
     refine Ev.succ ?_
     have k1 : (i : Int) < (L[j].length : Int) := by omega
     have k2 : (0 : Int) ≤ (i : Int) := by omega
     simp only [laws_FnLevelsMade.l1, k1, k2, if_true, rd_nat L[j] i hil]
     have hy := x1.2 L[j][i] (List.getElem_mem hil)
     have hnext := ihe (i + 1) (by omega)
     have wi := wrap_nat i _ hil (by omega)
     -- the three places above
     by_cases hj0 : j = 0
     ·subst hj0
      have b0 : (((0 : Nat) : Int) == 0) = true := rfl
      have b1 : ¬ (((0 : Nat) : Int) > 0) := by omega
      rw [b0]
      refine Ev.succ ?_
      have k3 : (-1 : Int) ≤ 1 := by omega
      simp only [laws_FnLevelsMade.l2, k3, if_true, b1, if_false, wi]
      exact hnext
     ·obtain ⟨j', rfl⟩ : ∃ j', j = j' + 1 := ⟨j - 1, by omega⟩
      have b0 : (((j' + 1 : Nat) : Int) == 0) = false := by simp; omega
      have b1 : (((j' + 1 : Nat) : Int) > 0) := by omega
      have b2 : wrap64 (((j' + 1 : Nat) : Int) - 1) = (j' : Int) := by unfold wrap64; omega
      have b3 : (0 : Int) ≤ (j' : Int) := by omega
      have b4 : (j' : Int) < (L.length : Int) := by omega
      rw [b0]
      obtain ⟨o, ho, hno⟩ := hm.near j' hjl L[j' + 1][i] (List.getElem_mem hil)
      obtain ⟨q1, q2⟩ := hm.lev L[j'] (List.getElem_mem (by omega))
      have q3 := q1.len
      have hnh := fun v => nHas_ev L[j'] v (by omega)
      have ho2 := q1.2 o ho
      generalize L[j' + 1][i] = y at hy hno
      -- once it is near it stays so
      have stay : ∀ (e : Nat) (t : Int), t + e = 2 → -1 ≤ t → Ev (fun k => laws_FnLevelsMade.l2 k c L (L.length : Int) W (res n l) m2 ((j' + 1 : Nat) : Int) y true t L (L.length : Int) ((j' + 1 : Nat) : Int) L[j' + 1] (L[j' + 1].length : Int) (i : Int) (n : Int) ls) true := by
       intro e
       induction e with
       | zero =>
        intro t ht _
        refine Ev.succ ?_
        have k3 : ¬ t ≤ 1 := by omega
        simp only [laws_FnLevelsMade.l2, k3, if_false, if_true, wi]
        exact hnext
       | succ e iht =>
        intro t ht ht0
        refine Ev.succ ?_
        have k3 : t ≤ 1 := by omega
        have k4 : wrap64 (t + 1) = t + 1 := wrap_in (by omega) (by omega)
        simp only [laws_FnLevelsMade.l2, k3, if_true, b1, k4]
        exact iht (t + 1) (by omega) (by omega)
      have find : ∀ (e : Nat) (t : Int), t + e = 2 → -1 ≤ t → t ≤ o - y → Ev (fun k => laws_FnLevelsMade.l2 k c L (L.length : Int) W (res n l) m2 ((j' + 1 : Nat) : Int) y false t L (L.length : Int) ((j' + 1 : Nat) : Int) L[j' + 1] (L[j' + 1].length : Int) (i : Int) (n : Int) ls) true := by
       intro e
       induction e with
       | zero =>
        intro t ht _ hto
        exfalso
        apply hno
        unfold ap
        omega
       | succ e iht =>
        intro t ht ht0 hto
        refine Ev.succ ?_
        have k3 : t ≤ 1 := by omega
        have k4 : wrap64 (t + 1) = t + 1 := wrap_in (by omega) (by omega)
        have k5 : wrap64 (y + t) = y + t := wrap_in (by omega) (by omega)
        simp only [laws_FnLevelsMade.l2, k3, if_true, b1, k4, b2, b3, b4, Bool.false_eq_true, if_false, rd_rows L j' (by omega), k5]
        refine Ev.bind (hnh (y + t)) ?_
        by_cases hin : y + t ∈ L[j']
        ·rw [decide_eq_true hin]
         exact stay e (t + 1) (by omega) (by omega)
        ·rw [decide_eq_false hin]
         have hne : t ≠ o - y := fun e => hin (by rw [e, show y + (o - y) = o by omega]; exact ho)
         exact iht (t + 1) (by omega) (by omega) (by omega)
      exact find 3 (-1) (by omega) (by omega) (by unfold ap at hno; omega)
   exact hgo L[j].length 0 (by omega)
  refine Ev.ite (fun h => ?_) (fun h => ?_)
  ·exact next _ (by rw [if_neg (by omega)])
  ·refine next _ ?_
   split <;> omega
theorem order_res {n : Nat} (hn1 : 2 ≤ n) (hn : n ≤ 8) {p : List Int} (h : isOrd n p) : orderB p = true := by
 refine (orderB_iff p).2 ⟨by rw [h.1]; omega, fun i hi => ?_⟩
 have h1 := h.2.2 p[i] (List.getElem_mem hi)
 rw [← h.1] at h1
 refine ⟨h1.1, h1.2, fun hm => ?_⟩
 obtain ⟨j, hj, e⟩ := List.mem_take_iff_getElem.1 hm
 exact List.pairwise_iff_getElem.1 h.2.1 j i (by omega) hi (by omega) e
theorem FnLevelsMade : ∀ (l0 : List Int) (l1 : List Int), l0.length ≤ maxLen → (∀ x ∈ l0, (Lit.int .u8 x).wf = true) → l1.length ≤ maxLen → (∀ x ∈ l1, (Lit.int .u8 x).wf = true) → ∃ k, laws_FnLevelsMade.f k l0 l1 = some true := by
 intro c1 c2 h1 b1 h2 b2
 refine Ev.rounds ?_
 unfold laws_FnLevelsMade.f
 obtain ⟨t, ht, hts⟩ := big_ev c1 c2 h1 h2
 simp only [ht, Option.bind_some]
 refine Ev.iteb (fun _ => Ev.now _) (fun hf => ?_)
 obtain ⟨hl1, hl2⟩ := hts hf
 have hc1 : Bytes c1 := ⟨hl1, bytes_of b1⟩
 have hc2 : Bytes c2 := ⟨hl2, bytes_of b2⟩
 obtain ⟨⟨a, l⟩, ha, hal⟩ := drawLevelsOf_got hc1
 simp only at hal
 refine Ev.bind ha ?_
 by_cases h : isLadderB a l = true
 ·have hl := (isLadderB_iff a l).1 h
  obtain ⟨n, rfl⟩ : ∃ n : Nat, a = n := ⟨a.toNat, by omega⟩
  obtain ⟨L, hm, hL, hF, hi, hs⟩ := made_all h
  have hlv : ∀ x, x ∈ L → Lv n x := fun x hx => (hm.lev x hx).1
  have hw1 := widest_impl L (by omega) L.length 0 0 (Nat.zero_add _)
  have hw2 := widest_spec L (by omega) L.length 0 0 (Nat.zero_add _)
  rw [List.drop_zero] at hw1 hw2
  have v1 : Ev (fun k => impl_LevelsOf.f k (n : Int) l) (L, true) := by
   unfold impl_LevelsOf.f impl_isLadder.f
   simp only [Option.bind_some, h, if_true]
   exact Ev.bind hi (Ev.now _)
  have v2 : Ev (fun k => spec_LevelsOf.f k (n : Int) l) (L, true) := by
   unfold spec_LevelsOf.f
   refine Ev.bind (laGood_ev _ l) ?_
   simp only [h, if_true]
   exact Ev.bind hs (Ev.now _)
  have v3 : Ev (fun k => impl_DepthOf.f k (n : Int) l) ((L.length : Int), true) := by
   unfold impl_DepthOf.f
   exact Ev.bind v1 (Ev.now _)
  have v4 : Ev (fun k => spec_DepthOf.f k (n : Int) l) ((L.length : Int), true) := by
   unfold spec_DepthOf.f
   refine Ev.bind (laGood_ev _ l) ?_
   simp only [h, if_true]
   exact Ev.bind hs (Ev.now _)
  have v5 : Ev (fun k => impl_WidestLevel.f k (n : Int) l) (widest L 0, true) := by
   unfold impl_WidestLevel.f impl_isLadder.f
   simp only [Option.bind_some, h, if_true]
   exact Ev.bind hi hw1
  have v6 : Ev (fun k => spec_WidestLevel.f k (n : Int) l) (widest L 0, true) := by
   unfold spec_WidestLevel.f
   refine Ev.bind (laGood_ev _ l) ?_
   simp only [h, if_true]
   exact Ev.bind hs hw2
  obtain ⟨hmade, hlad⟩ := Lol_made (n := n) (by omega) (by omega) hL hF hlv
  have hr1 := ResultOf_made h
  have hr2 := ResultOf_made hlad
  have hb : ∀ r, r ∈ L.flatten → 0 ≤ r ∧ r ≤ 1000 := fun r hr => by
   obtain ⟨x, hx, hr⟩ := List.mem_flatten.1 hr
   have := (hlv x hx).2 r hr
   omega
  have hsame := hm.sl.res hb n
  rw [hsame] at hr2
  obtain ⟨r1, f1, o1, nf1, rfl, ol1⟩ := FirstSame_got h
  obtain ⟨r2, f2, o2, nf2, rfl, ol2⟩ := FirstSame_got hlad
  have eo : o1 = o2 := nf1.same hm.sl.symm nf2
  subst eo
  have hord := res_isOrd (n := n) (by omega) L hlv
  rw [hsame] at hord
  have hordB := order_res (by omega) (by omega) hord
  have hrl := res_length n l
  refine Ev.bind v1 (Ev.bind v2 (Ev.bind v3 (Ev.bind v4 (Ev.bind v5 (Ev.bind v6 ?_)))))
  simp only [bne_self_eq_false, Bool.false_eq_true, if_false]
  refine Ev.bind (nRows_same _ (by omega) (fun x hx => by have := (hlv x hx).len; omega)) ?_
  simp only [if_true, isLadder_two, h, Option.bind_some, bne_self_eq_false, Bool.false_eq_true, if_false]
  refine Ev.bind hmade (Ev.bind hr1 (Ev.bind hr2 (Ev.bind f1 (Ev.bind f2 ?_))))
  simp only [if_true]
  refine Ev.bind (nSame_refl _ (by omega)) ?_
  simp only [if_true]
  refine Ev.bind (nLadder_refl _ _ (by omega)) ?_
  simp only [if_true]
  refine lm_l0 hc2 n (by omega) (by omega) l L hm hL hordB (fun h6 => ?_) (widest L 0) rfl l L.length 0 0 (Nat.zero_add _) rfl (Int.le_refl _)
  have hd := dist_levels h6 L hlv
  rw [hsame] at hd
  refine ⟨?_, hd⟩
  unfold leastD
  rw [if_pos ⟨hordB, by omega, by omega⟩, hrl]
  rfl
 ·have h' : isLadderB a l = false := by simpa using h
  have v1 : Ev (fun k => impl_LevelsOf.f k a l) ([], false) := by
   unfold impl_LevelsOf.f impl_isLadder.f
   simp only [Option.bind_some, h', Bool.false_eq_true, if_false]
   exact Ev.now _
  have v2 : Ev (fun k => spec_LevelsOf.f k a l) ([], false) := by
   unfold spec_LevelsOf.f
   refine Ev.bind (laGood_ev _ l) ?_
   simp only [h', Bool.false_eq_true, if_false]
   exact Ev.now _
  have v3 : Ev (fun k => impl_DepthOf.f k a l) (0, false) := by
   unfold impl_DepthOf.f
   exact Ev.bind v1 (Ev.now _)
  have v4 : Ev (fun k => spec_DepthOf.f k a l) (0, false) := by
   unfold spec_DepthOf.f
   refine Ev.bind (laGood_ev _ l) ?_
   simp only [h', Bool.false_eq_true, if_false]
   exact Ev.now _
  have v5 : Ev (fun k => impl_WidestLevel.f k a l) (0, false) := by
   unfold impl_WidestLevel.f impl_isLadder.f
   simp only [Option.bind_some, h', Bool.false_eq_true, if_false]
   exact Ev.now _
  have v6 : Ev (fun k => spec_WidestLevel.f k a l) (0, false) := by
   unfold spec_WidestLevel.f
   refine Ev.bind (laGood_ev _ l) ?_
   simp only [h', Bool.false_eq_true, if_false]
   exact Ev.now _
  refine Ev.bind v1 (Ev.bind v2 (Ev.bind v3 (Ev.bind v4 (Ev.bind v5 (Ev.bind v6 ?_)))))
  simp only [bne_self_eq_false, Bool.false_eq_true, if_false]
  refine Ev.bind (nRows_same [] (by simp) (fun x hx => by cases hx)) ?_
  simp only [if_true, isLadder_two, h', Option.bind_some, bne_self_eq_false, Bool.false_eq_true, if_false]
  exact lm_j4 hc2
end Go.Proofs.YtoomhlpanjebnaaGreat.Q
