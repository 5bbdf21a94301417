/- The pure statement of FnExactMeetingTable: the program's MeetingTable and the reference's give the same. Conditions: none beyond the law's own. -/
import Derived.Test.YtjppgokdocjljaaE
import Derived.Test.YtjppgokdocjljaaB2
import Derived.Test.YtjppgokdocjljaaB22
import Derived.Test.YtjppgokdocjljaaB7
import Derived.Test.YtjppgokdocjljaaB17
import Derived.Test.YtjppgokdocjljaaB1
import Derived.Test.YtjppgokdocjljaaB10
import Derived.Test.YtjppgokdocjljaaB11
import Derived.Test.YtjppgokdocjljaaB20
import Derived.Test.YtjppgokdocjljaaB23
namespace Go.Proofs.Ytjppgokdocjljaa.Q
open Go.RowKit Go.Proofs.Ytjppgokdocjljaa.B Go.Proofs.YtjppgokdocjljaaW.PrintWords Go.Proofs.YtjppgokdocjljaaW.PrintLast Go.Proofs.YtjppgokdocjljaaW.PrintMore
set_option linter.unusedVariables false
set_option linter.unusedSimpArgs false
/-! Steps of indices. -/
theorem wrap_succ {i : Int} {n : Nat} (h0 : 0 ≤ i) (h : i < (n : Int)) (hn : n ≤ 9223372036854775807) : wrap64 (i + 1) = i + 1 := by
  unfold wrap64; omega
theorem wrap_in {i : Int} (h0 : -9223372036854775808 ≤ i) (h : i ≤ 9223372036854775807) : wrap64 i = i := by
  unfold wrap64; omega
theorem rd_nat (l : List Int) (j : Nat) (hj : j < l.length) : rd l (j : Int) = l[j] := by
  unfold rd; simp [hj]
theorem copy_step (l : List Int) (j : Nat) (hj : j < l.length) :
    (l.take j ++ List.replicate (l.length - j) 0).set j (l.getD j 0) = l.take (j + 1) ++ List.replicate (l.length - (j + 1)) 0 := by
  have e1 : l.length - j = (l.length - (j + 1)) + 1 := by omega
  have e2 : (l.take j).length = j := by rw [List.length_take]; omega
  rw [List.set_append_right (h := by omega), e2, e1, List.replicate_succ, Nat.sub_self, List.set_cons_zero, List.take_succ_eq_append_getElem hj, List.append_assoc]
  rw [List.getD_eq_getElem?_getD, List.getElem?_eq_getElem hj]
  rfl
/-! Rounds. -/
theorem Ev.succ {α : Type} {g : Nat → Option α} {r : α} (h : Ev (fun k => g (k + 1)) r) : Ev g r := Ev.step (f := fun k => g (k + 1)) (fun _ => rfl) h
theorem Ev.ret {α : Type} {g : Nat → Option α} {r : α} (h : ∀ k, g k = some r) : Ev g r := ⟨0, fun k _ => h k⟩
theorem Ev.eq {α : Type} {g : Nat → Option α} {r r' : α} (h : Ev g r) (e : r = r') : Ev g r' := e ▸ h
theorem Ev.iteb {α : Type} {b : Bool} {f g : Nat → Option α} {r : α} (h1 : b = true → Ev f r) (h2 : b = false → Ev g r) : Ev (fun k => if b = true then f k else g k) r := by
  cases b with
  | true => simpa using h1 rfl
  | false => simpa using h2 rfl
theorem Ev.ite {α : Type} {p : Prop} [Decidable p] {f g : Nat → Option α} {r : α} (h1 : p → Ev f r) (h2 : ¬ p → Ev g r) : Ev (fun k => if p then f k else g k) r := by
  by_cases h : p
  · simpa [h] using h1 h
  · simpa [h] using h2 h
/-- A loop over the places j, j+1, .., n: its state s, what it answers from a place and a state on. -/
theorem Ev.upto {σ ρ : Type} {L : Nat → Nat → σ → Option ρ} {R : Nat → σ → ρ} {n : Nat} (hend : ∀ s, Ev (fun k => L k n s) (R n s)) (hstep : ∀ j s, j < n → (∀ s', Ev (fun k => L k (j + 1) s') (R (j + 1) s')) → Ev (fun k => L k j s) (R j s)) :
    ∀ j s, j ≤ n → Ev (fun k => L k j s) (R j s) := by
  intro j s hj
  obtain ⟨d, hd⟩ : ∃ d, d = n - j := ⟨_, rfl⟩
  induction d generalizing j s with
  | zero => obtain rfl : j = n := by omega
            exact hend s
  | succ d ih => exact hstep j s (by omega) (fun s' => ih (j + 1) s' (by omega) (by omega))
theorem nat_succ (j : Nat) : ((j : Int) + 1) = ((j + 1 : Nat) : Int) := rfl
theorem wrap_nat (j n : Nat) (h : j < n) (hn : n ≤ 9223372036854775807) : wrap64 ((j : Int) + 1) = ((j + 1 : Nat) : Int) := by
  unfold wrap64; omega
theorem nat_toNat (j : Nat) : ((j : Int)).toNat = j := rfl
theorem take_snoc {α : Type} (l : List α) (j : Nat) (h : j < l.length) : l.take (j + 1) = l.take j ++ [l[j]] := List.take_succ_eq_append_getElem h
theorem Ev.inv {σ ρ : Type} {L : Nat → Nat → σ → Option ρ} {Inv : Nat → σ → Prop} {r : ρ} {n : Nat} (hend : ∀ s, Inv n s → Ev (fun k => L k n s) r) (hstep : ∀ j s, j < n → Inv j s → (∀ s', Inv (j + 1) s' → Ev (fun k => L k (j + 1) s') r) → Ev (fun k => L k j s) r) :
    ∀ j s, j ≤ n → Inv j s → Ev (fun k => L k j s) r := by
  intro j s hj hi
  obtain ⟨d, hd⟩ : ∃ d, d = n - j := ⟨_, rfl⟩
  induction d generalizing j s with
  | zero => obtain rfl : j = n := by omega
            exact hend s hi
  | succ d ih => exact hstep j s (by omega) hi (fun s' hs' => ih (j + 1) s' (by omega) hs' (by omega))
def ovr (w r : Int) : Int := if w = r then wrap64 (r + 1) else if w = wrap64 (r + 1) then r else w
theorem ovr_in {w : Int} {n r : Nat} (h0 : 0 ≤ w) (h1 : w < n) (hr : r < n - 1) (hn : n ≤ 8) : 0 ≤ ovr w r ∧ ovr w r < n := by
  have e : wrap64 ((r : Int) + 1) = (r : Int) + 1 := wrap_in (by omega) (by omega)
  unfold ovr
  rw [e]
  split
  · omega
  · split <;> omega
/-- Where one comes out. -/
def endOf (w : Int) (rungs : List Int) : Int := rungs.foldl ovr w
def downs (w : Int) : List Int → List Int
  | [] => [w]
  | r :: l => w :: downs (ovr w r) l
theorem downs_length (l : List Int) : ∀ w, (downs w l).length = l.length + 1 := by
  induction l with
  | nil => intro w; rfl
  | cons r l ih => intro w; simp [downs, ih]
theorem downs_last (l : List Int) : ∀ w, (downs w l)[l.length]? = some (endOf w l) := by
  induction l with
  | nil => intro w; rfl
  | cons r l ih => intro w; simp [downs, endOf]; exact ih _
theorem downs_snoc (l : List Int) (r : Int) : ∀ w, downs w (l ++ [r]) = downs w l ++ [ovr (endOf w l) r] := by
  induction l with
  | nil => intro w; rfl
  | cons q l ih => intro w; simp [downs, ih, endOf]
theorem endOf_snoc (l : List Int) (r w : Int) : endOf w (l ++ [r]) = ovr (endOf w l) r := by simp [endOf]
/-- The result. -/
def res (n : Nat) (l : List Int) : List Int := (List.range n).map fun (i : Nat) => endOf (i : Int) l
theorem res_length (n : Nat) (l : List Int) : (res n l).length = n := by simp [res]
theorem res_take (n j : Nat) (l : List Int) (h : j < n) : (res n l).take (j + 1) = (res n l).take j ++ [endOf (j : Int) l] := by
  have hj : j < (res n l).length := by rw [res_length]; exact h
  rw [take_snoc _ j hj]; simp [res]
/-- at how many rungs two change places -/
def mtc (a b : Int) : List Int → Nat
  | [] => 0
  | r :: l => (if ovr a r = b ∧ ovr b r = a then 1 else 0) + mtc (ovr a r) (ovr b r) l
theorem mtc_snoc (l : List Int) (r : Int) : ∀ a b, mtc a b (l ++ [r]) = mtc a b l + (if ovr (endOf a l) r = endOf b l ∧ ovr (endOf b l) r = endOf a l then 1 else 0) := by
  induction l with
  | nil => intro a b; show (if ovr a r = b ∧ ovr b r = a then 1 else 0) + 0 = 0 + (if ovr a r = b ∧ ovr b r = a then 1 else 0); rw [Nat.add_zero, Nat.zero_add]
  | cons q l ih =>
    intro a b
    rw [List.cons_append, mtc, ih, mtc]
    have e : ∀ w, endOf w (q :: l) = endOf (ovr w q) l := fun w => by simp [endOf]
    rw [e a, e b, Nat.add_assoc]
theorem mtc_le (l : List Int) : ∀ a b, mtc a b l ≤ l.length := by
  induction l with
  | nil => intro a b; simp [mtc]
  | cons r l ih =>
    intro a b
    have := ih (ovr a r) (ovr b r)
    rw [mtc, List.length_cons]
    split <;> omega
theorem downs_get (l : List Int) : ∀ (w : Int) (j : Nat), j ≤ l.length → (downs w l)[j]? = some (endOf w (l.take j)) := by
  induction l with
  | nil => intro w j h; obtain rfl : j = 0 := by simpa using h
           rfl
  | cons r l ih =>
    intro w j h
    cases j with
    | zero => rfl
    | succ j =>
      simp only [downs, List.getElem?_cons_succ, List.take_succ_cons]
      rw [ih (ovr w r) j (by simpa using h)]
      simp [endOf]
theorem rd_downs (l : List Int) (w : Int) (j : Nat) (h : j ≤ l.length) : rd (downs w l) (j : Int) = endOf w (l.take j) := by
  unfold rd; rw [nat_toNat, List.getD_eq_getElem?_getD, downs_get l w j h]; rfl
def meetRow (n : Nat) (l : List Int) (a : Nat) : List Int := (List.range n).map fun (b : Nat) => if a = b then 0 else ((mtc (a : Int) (b : Int) l : Nat) : Int)
def meetTab (n : Nat) (l : List Int) : List (List Int) := (List.range n).map (meetRow n l)
theorem meetRow_length (n : Nat) (l : List Int) (a : Nat) : (meetRow n l a).length = n := by simp [meetRow]
theorem meetTab_length (n : Nat) (l : List Int) : (meetTab n l).length = n := by simp [meetTab]
theorem meetRow_take (n : Nat) (l : List Int) (a j : Nat) (h : j < n) : (meetRow n l a).take (j + 1) = (meetRow n l a).take j ++ [if a = j then 0 else ((mtc (a : Int) (j : Int) l : Nat) : Int)] := by
  have hj : j < (meetRow n l a).length := by rw [meetRow_length]; exact h
  rw [take_snoc _ j hj]; simp [meetRow]
theorem meetTab_take (n : Nat) (l : List Int) (j : Nat) (h : j < n) : (meetTab n l).take (j + 1) = (meetTab n l).take j ++ [meetRow n l j] := by
  have hj : j < (meetTab n l).length := by rw [meetTab_length]; exact h
  rw [take_snoc _ j hj]; simp [meetTab]
theorem laOver_f (w r : Int) : spec_laOver.f w r = some (ovr w r) := by
  unfold spec_laOver.f ovr; split
  · rfl
  · split <;> rfl
theorem laMeet_ev (l : List Int) (a b : Int) (hl : l.length ≤ 1000000) : Ev (fun k => spec_laMeet.f k l a b) ((mtc a b l : Nat) : Int) := by
  have key := Ev.inv (σ := Int × Int × Int) (L := fun k j s => spec_laMeet.l0 k s.1 s.2.1 s.2.2 l (l.length : Int) (j : Int)) (r := ((mtc a b l : Nat) : Int)) (n := l.length)
    (Inv := fun j s => s.1 = endOf a (l.take j) ∧ s.2.1 = endOf b (l.take j) ∧ s.2.2 = ((mtc a b (l.take j) : Nat) : Int))
    (fun s hs => by
      obtain ⟨s1, s2, s3⟩ := s; obtain ⟨rfl, rfl, rfl⟩ := hs
      refine Ev.succ (Ev.ret fun k => ?_)
      rw [spec_laMeet.l0, if_neg (by omega), List.take_length])
    (fun j s hj hs ih => by
      obtain ⟨s1, s2, s3⟩ := s; obtain ⟨rfl, rfl, rfl⟩ := hs
      refine Ev.succ ?_
      have h1 : (j : Int) < (l.length : Int) := by omega
      have h0 : (0 : Int) ≤ (j : Int) := by omega
      have hm := mtc_le (l.take j) a b
      rw [List.length_take] at hm
      have gc : wrap64 (((mtc a b (l.take j) : Nat) : Int) + 1) = ((mtc a b (l.take j) + 1 : Nat) : Int) := wrap_nat _ (mtc a b (l.take j) + 1) (by omega) (by omega)
      simp only [spec_laMeet.l0, h1, h0, if_true, rd_nat l j hj, wrap_nat j _ hj (by omega), laOver_f, Option.bind_some, gc]
      have e1 : ∀ w, ovr (endOf w (l.take j)) l[j] = endOf w (l.take (j + 1)) := fun w => by rw [take_snoc l j hj, endOf_snoc]
      have e3 := mtc_snoc (l.take j) l[j] a b
      rw [← take_snoc l j hj] at e3
      refine Ev.ite (fun c1 => ?_) (fun c1 => ?_)
      · refine Ev.ite (fun c2 => ?_) (fun c2 => ?_)
        · rw [if_pos ⟨c1, c2⟩] at e3
          exact ih (_, _, _) ⟨e1 a, e1 b, by rw [e3]⟩
        · rw [if_neg (fun c => c2 c.2)] at e3
          exact ih (_, _, _) ⟨e1 a, e1 b, by rw [e3]; rfl⟩
      · rw [if_neg (fun c => c1 c.1)] at e3
        exact ih (_, _, _) ⟨e1 a, e1 b, by rw [e3]; rfl⟩)
  exact key 0 (a, b, 0) (Nat.zero_le _) ⟨rfl, rfl, rfl⟩
theorem over_f (w r : Int) : impl_over.f w r = some (ovr w r) := by
  unfold impl_over.f ovr; split
  · rfl
  · split <;> rfl
theorem way_ev (a : Int) (l : List Int) (w : Int) (hn : l.length ≤ 1000000) : Ev (fun k => impl_way.f k a l w) (downs w l) := by
  have key := Ev.inv (σ := Int × List Int) (L := fun k j s => impl_way.l0 k s.1 s.2 l (l.length : Int) (j : Int)) (r := downs w l) (n := l.length)
    (Inv := fun j s => s.1 = endOf w (l.take j) ∧ s.2 = downs w (l.take j))
    (fun s hs => by
      obtain ⟨s1, s2⟩ := s; obtain ⟨rfl, rfl⟩ := hs
      refine Ev.succ (Ev.ret fun k => ?_)
      rw [impl_way.l0, if_neg (by omega), List.take_length])
    (fun j s hj hs ih => by
      obtain ⟨s1, s2⟩ := s; obtain ⟨rfl, rfl⟩ := hs
      refine Ev.succ ?_
      have h1 : (j : Int) < (l.length : Int) := by omega
      have h0 : (0 : Int) ≤ (j : Int) := by omega
      have h2 : (downs w (l.take j)).length < 17592186044416 := by rw [downs_length, List.length_take]; omega
      simp only [impl_way.l0, h1, h0, h2, if_true, rd_nat l j hj, wrap_nat j _ hj (by omega), over_f, Option.bind_some]
      have e1 : ovr (endOf w (l.take j)) l[j] = endOf w (l.take (j + 1)) := by rw [take_snoc l j hj, endOf_snoc]
      have e2 : downs w (l.take j) ++ [ovr (endOf w (l.take j)) l[j]] = downs w (l.take (j + 1)) := by rw [take_snoc l j hj, downs_snoc]
      exact ih (_, _) ⟨e1, e2⟩)
  exact key 0 (w, [w]) (Nat.zero_le _) ⟨rfl, rfl⟩
theorem btw_f (a b c : Int) : impl_between.f a b c = some (inB a b c) := by
  unfold impl_between.f inB
  split
  · rename_i h; simp [h]
  · rename_i h; simp; omega
theorem l1In_f (a b c : Int) : spec_l1In.f a b c = some (inB a b c) := by
  unfold spec_l1In.f inB
  split
  · rename_i h; simp [h]
  · rename_i h; simp; omega
theorem inB_iff (a b c : Int) : inB a b c = true ↔ b ≤ a ∧ a ≤ c := by unfold inB; simp
theorem l1All_ev (l : List Int) (lo hi : Int) (hn : l.length ≤ 9223372036854775807) : Ev (fun k => spec_l1All.f k l lo hi) (l.all fun x => inB x lo hi) := by
  have key := Ev.upto (L := fun k j (_ : Unit) => spec_l1All.l0 k lo hi l (l.length : Int) (j : Int)) (R := fun j _ => (l.drop j).all fun x => inB x lo hi) (n := l.length)
    (fun _ => by
      refine Ev.succ (Ev.ret fun k => ?_)
      rw [spec_l1All.l0, if_neg (by omega)]; simp)
    (fun j _ hj ih => by
      refine Ev.succ ?_
      have h1 : (j : Int) < (l.length : Int) := by omega
      have h0 : (0 : Int) ≤ (j : Int) := by omega
      simp only [spec_l1All.l0, h1, h0, if_true, l1In_f, rd_nat l j hj, Option.bind_some, wrap_nat j _ hj hn]
      rw [List.drop_eq_getElem_cons hj, List.all_cons]
      refine Ev.iteb (fun h => ?_) (fun h => ?_)
      · rw [h, Bool.true_and]; exact ih ()
      · rw [h, Bool.false_and]; exact Ev.now _)
  have := key 0 () (Nat.zero_le _)
  rw [List.drop_zero] at this
  exact this
theorem laGood_ev (a : Int) (l : List Int) : Ev (fun k => spec_laGood.f k a l) (isLadderB a l) := by
  unfold spec_laGood.f isLadderB
  simp only [l1In_f, Option.bind_some]
  refine Ev.iteb (fun h => ?_) (fun h => ?_)
  · rw [h, Bool.true_and]
    refine Ev.ite (fun h2 => ?_) (fun h2 => ?_)
    · have h3 : decide (l.length ≤ 60) = true := by simp; omega
      rw [h3, Bool.true_and]
      refine Ev.bind (l1All_ev l 0 _ (by omega)) ?_
      refine Ev.eq (Ev.now _) ?_
      rw [List.all_eq_not_any_not]
    · have h3 : decide (l.length ≤ 60) = false := by simp; omega
      rw [h3, Bool.false_and]; exact Ev.now _
  · rw [h, Bool.false_and]; exact Ev.now _
theorem isLadderB_iff (a : Int) (l : List Int) : isLadderB a l = true ↔ 2 ≤ a ∧ a ≤ 8 ∧ l.length ≤ 60 ∧ ∀ r ∈ l, 0 ≤ r ∧ r ≤ a - 2 := by
  unfold isLadderB
  by_cases h : 2 ≤ a ∧ a ≤ 8
  · have e : wrap64 (a - 2) = a - 2 := wrap_in (by omega) (by omega)
    rw [e]
    simp [inB, h.1, h.2]
  · constructor
    · intro h2; simp [inB] at h2; exact absurd h2.1 h
    · intro h2; exact absurd ⟨h2.1, h2.2.1⟩ h
theorem MeetingsOf_ev (n : Nat) (l : List Int) (a b : Nat) (h : isLadderB (n : Int) l = true) (ha : a < n) (hb : b < n) : Ev (fun k => impl_MeetingsOf.f k (n : Int) l (a : Int) (b : Int)) (if a = b then (0, false) else (((mtc (a : Int) (b : Int) l : Nat) : Int), true)) := by
  have hl := (isLadderB_iff _ l).1 h
  have e1 : wrap64 ((n : Int) - 1) = (n : Int) - 1 := wrap_in (by omega) (by omega)
  have ia : inB (a : Int) 0 ((n : Int) - 1) = true := by simp [inB]; omega
  have ib : inB (b : Int) 0 ((n : Int) - 1) = true := by simp [inB]; omega
  unfold impl_MeetingsOf.f impl_hasWire.f impl_isLadder.f
  simp only [Option.bind_some, h, if_true, btw_f, e1, ia, ib]
  refine Ev.succ ?_
  simp only [impl_MeetingsOf.j0]
  by_cases hab : a = b
  · have c : ((a : Int) == (b : Int)) = true := by simp [hab]
    rw [if_pos hab]
    simp only [c, if_true]
    exact Ev.now _
  · have c : ((a : Int) == (b : Int)) = false := by simp; omega
    rw [if_neg hab]
    simp only [c, Bool.false_eq_true, if_false]
    refine Ev.bind (way_ev _ l _ (by omega)) ?_
    refine Ev.bind (way_ev _ l _ (by omega)) ?_
    have key := Ev.inv (σ := Int) (L := fun k j s => impl_MeetingsOf.l0 k (downs (a : Int) l) (downs (b : Int) l) s (l.length : Int) (j : Int)) (r := (((mtc (a : Int) (b : Int) l : Nat) : Int), true)) (n := l.length)
      (Inv := fun j s => s = ((mtc (a : Int) (b : Int) (l.take j) : Nat) : Int))
      (fun s hs => by
        subst hs
        refine Ev.succ (Ev.ret fun k => ?_)
        rw [impl_MeetingsOf.l0, if_neg (by omega), List.take_length])
      (fun j s hj hs ih => by
        subst hs
        refine Ev.succ ?_
        have h1 : (j : Int) < (l.length : Int) := by omega
        have h0 : (0 : Int) ≤ (j : Int) := by omega
        have h2 : (0 : Int) ≤ ((j + 1 : Nat) : Int) := by omega
        have h3 : ∀ w : Int, (j : Int) < ((downs w l).length : Int) := fun w => by rw [downs_length]; omega
        have h4 : ∀ w : Int, ((j + 1 : Nat) : Int) < ((downs w l).length : Int) := fun w => by rw [downs_length]; omega
        have hm := mtc_le (l.take j) (a : Int) (b : Int)
        rw [List.length_take] at hm
        have gc : wrap64 (((mtc (a : Int) (b : Int) (l.take j) : Nat) : Int) + 1) = ((mtc (a : Int) (b : Int) (l.take j) + 1 : Nat) : Int) := wrap_nat _ (mtc (a : Int) (b : Int) (l.take j) + 1) (by omega) (by omega)
        simp only [impl_MeetingsOf.l0, h1, h0, h2, h3, h4, if_true, wrap_nat j _ hj (by omega), gc, rd_downs l _ j (by omega), rd_downs l _ (j + 1) (by omega)]
        have e1 : ∀ w, endOf w (l.take (j + 1)) = ovr (endOf w (l.take j)) l[j] := fun w => by rw [take_snoc l j hj, endOf_snoc]
        have e3 := mtc_snoc (l.take j) l[j] (a : Int) (b : Int)
        rw [← take_snoc l j hj] at e3
        simp only [e1]
        refine Ev.ite (fun c1 => ?_) (fun c1 => ?_)
        · refine Ev.ite (fun c2 => ?_) (fun c2 => ?_)
          · rw [if_pos ⟨c2.symm, c1.symm⟩] at e3
            exact ih _ (by rw [e3])
          · rw [if_neg (fun c => c2 c.1.symm)] at e3
            exact ih _ (by rw [e3]; rfl)
        · rw [if_neg (fun c => c1 c.2.symm)] at e3
          exact ih _ (by rw [e3]; rfl))
    exact key 0 0 (Nat.zero_le _) rfl
theorem toIntS_l0 (l : List Int) (hn : l.length ≤ 140737488351232) (d : Nat) : ∀ (k j : Nat), j ≤ l.length → l.length - j = d → d < k →
    laws_toIntS.l0 k l (l.take j ++ List.replicate (l.length - j) 0) (j : Int) = some l := by
  induction d with
  | zero =>
    intro k j h1 hd hk
    obtain ⟨k, rfl⟩ : ∃ m, k = m + 1 := ⟨k - 1, by omega⟩
    have : j = l.length := by omega
    subst this
    rw [laws_toIntS.l0, if_neg (by omega)]; simp
  | succ d ih =>
    intro k j h1 hd hk
    obtain ⟨k, rfl⟩ : ∃ m, k = m + 1 := ⟨k - 1, by omega⟩
    have hj : j < l.length := by omega
    rw [laws_toIntS.l0, if_pos (by omega), if_pos (by omega), if_pos (by simp; omega), wrap_succ (n := l.length) (by omega) (by omega) (by omega)]
    have e : (j : Int).toNat = j := rfl
    have e2 : ((j : Int) + 1) = ((j + 1 : Nat) : Int) := rfl
    unfold rd
    rw [e, copy_step l j hj, e2]
    exact ih k (j + 1) (by omega) (by omega) (by omega)
theorem toIntS_f (l : List Int) (hn : l.length ≤ 17592186043904) (k : Nat) (hk : l.length < k) : laws_toIntS.f k l = some l := by
  unfold laws_toIntS.f
  rw [if_pos (by omega), if_pos (by simp; omega)]
  have := toIntS_l0 l (by omega) l.length k 0 (by omega) (by omega) hk
  simpa using this
theorem toIntS_ev (l : List Int) (hn : l.length ≤ 17592186043904) : Ev (fun k => laws_toIntS.f k l) l :=
  ⟨l.length + 1, fun k hk => toIntS_f l hn k (by omega)⟩
theorem toLadder_ev (a : Int) (l : List Int) (hn : l.length ≤ 17592186043904) : Ev (fun k => laws_toLadder.f k a l) (a, l) := by
  unfold laws_toLadder.f
  exact Ev.bind (toIntS_ev l hn) (Ev.now _)
theorem eqIntS_l0 (a b : List Int) (he : a.length = b.length) (hn : a.length ≤ 9223372036854775807) (d : Nat) : ∀ (k j : Nat), j ≤ a.length → a.length - j = d → d < k →
    laws_eqIntS.l0 k a b (j : Int) = some (decide (a.drop j = b.drop j)) := by
  induction d with
  | zero =>
    intro k j h1 hd hk
    obtain ⟨k, rfl⟩ : ∃ m, k = m + 1 := ⟨k - 1, by omega⟩
    have h2 : a.drop j = [] := List.drop_eq_nil_of_le (by omega)
    have h3 : b.drop j = [] := List.drop_eq_nil_of_le (by omega)
    rw [laws_eqIntS.l0, if_neg (by omega), h2, h3]; simp only [decide_true]
  | succ d ih =>
    intro k j h1 hd hk
    obtain ⟨k, rfl⟩ : ∃ m, k = m + 1 := ⟨k - 1, by omega⟩
    have hj : j < a.length := by omega
    have hj2 : j < b.length := by omega
    rw [laws_eqIntS.l0, if_pos (by omega), if_pos (by omega), if_pos (by omega), rd_nat a j hj, rd_nat b j hj2, wrap_succ (n := a.length) (by omega) (by omega) hn, List.drop_eq_getElem_cons hj, List.drop_eq_getElem_cons hj2]
    by_cases h : a[j] = b[j]
    · rw [if_pos h]
      have e2 : ((j : Int) + 1) = ((j + 1 : Nat) : Int) := rfl
      rw [e2, ih k (j + 1) (by omega) (by omega) (by omega)]
      refine congrArg some (decide_eq_decide.2 ?_)
      rw [List.cons.injEq]
      exact ⟨fun e => ⟨h, e⟩, fun e => e.2⟩
    · rw [if_neg h]
      refine congrArg some (decide_eq_false ?_).symm
      rw [List.cons.injEq]
      exact fun e => h e.1
theorem eqIntS_ev (a b : List Int) (hn : a.length ≤ 9223372036854775807) : Ev (fun k => laws_eqIntS.f k a b) (decide (a = b)) := by
  refine ⟨a.length + 1, fun k hk => ?_⟩
  show laws_eqIntS.f k a b = _
  unfold laws_eqIntS.f
  by_cases h : (a.length : Int) = (b.length : Int)
  · rw [if_pos h]
    have := eqIntS_l0 a b (by omega) hn a.length k 0 (by omega) (by omega) (by omega)
    simpa using this
  · rw [if_neg h]
    have : a ≠ b := fun e => h (by rw [e])
    simp [this]
theorem eqIntS_refl (l : List Int) (hn : l.length ≤ 9223372036854775807) : Ev (fun k => laws_eqIntS.f k l l) true := Ev.eq (eqIntS_ev l l hn) (by simp)
theorem eqLadder_ev (a : Int) (l : List Int) (b : Int) (m : List Int) (hn : l.length ≤ 9223372036854775807) : Ev (fun k => laws_eqLadder.f k a l b m) (decide (a = b ∧ l = m)) := by
  unfold laws_eqLadder.f
  refine Ev.ite (fun h => ?_) (fun h => ?_)
  · refine Ev.bind (eqIntS_ev l m hn) ?_
    refine Ev.iteb (fun h2 => ?_) (fun h2 => ?_)
    · refine Ev.eq (Ev.now _) ?_; simp at h2; simp [h, h2]
    · refine Ev.eq (Ev.now _) ?_; simp at h2; simp [h2]
  · refine Ev.eq (Ev.now _) ?_; simp [h]
theorem eqLadder_refl (a : Int) (l : List Int) (hn : l.length ≤ 9223372036854775807) : Ev (fun k => laws_eqLadder.f k a l a l) true := Ev.eq (eqLadder_ev a l a l hn) (by simp)
theorem szLadder_f (a : Int) (l : List Int) (hn : l.length ≤ 9223372036854775807) : laws_szLadder.f a l 1048576 = some (if l.length ≤ 1048576 then 1048576 - (l.length : Int) else -1) := by
  unfold laws_szLadder.f laws_szIntS.f
  have e : wrap64 (1048576 - (l.length : Int)) = 1048576 - (l.length : Int) := wrap_in (by omega) (by omega)
  rw [e]
  by_cases h : l.length ≤ 1048576
  · rw [if_neg (by omega), if_pos h, Option.bind_some, if_neg (by omega)]
  · rw [if_pos (by omega), if_neg h]; rfl
/-- the marks from m on, n of them -/
def marks (m : Int) : Nat → List Int
  | 0 => []
  | n + 1 => m :: marks (wrap64 (m + 1)) n
def markEnd (m : Int) : Nat → Int
  | 0 => m
  | n + 1 => markEnd (wrap64 (m + 1)) n
theorem marks_length (n : Nat) : ∀ m, (marks m n).length = n := by
  induction n with
  | zero => intro m; rfl
  | succ n ih => intro m; simp [marks, ih]
theorem markIntS_l0 (n : Nat) : ∀ (k j : Nat) (p q : List Int) (m : Int), p.length = j → q.length = n → j + n ≤ 9223372036854775807 → n < k →
    laws_markIntS.l0 k (p ++ q) m (j : Int) = some (markEnd m n, p ++ marks m n) := by
  induction n with
  | zero =>
    intro k j p q m hp hq hb hk
    obtain ⟨k, rfl⟩ : ∃ m, k = m + 1 := ⟨k - 1, by omega⟩
    have : q = [] := List.eq_nil_of_length_eq_zero hq
    subst this
    rw [laws_markIntS.l0, if_neg (by simp; omega)]; simp [marks, markEnd]
  | succ n ih =>
    intro k j p q m hp hq hb hk
    obtain ⟨k, rfl⟩ : ∃ m, k = m + 1 := ⟨k - 1, by omega⟩
    cases q with
    | nil => simp at hq
    | cons x q =>
      rw [laws_markIntS.l0, if_pos (by simp; omega), if_pos (by omega), wrap_succ (i := (j : Int)) (n := j + n + 1) (by omega) (by omega) (by omega)]
      have e : (j : Int).toNat = j := rfl
      have e2 : ((j : Int) + 1) = ((j + 1 : Nat) : Int) := rfl
      have e3 : (p ++ x :: q).set j m = (p ++ [m]) ++ q := by
        rw [List.set_append_right (h := by omega), hp, Nat.sub_self, List.set_cons_zero, List.append_assoc]; rfl
      rw [e, e2, e3, ih k (j + 1) (p ++ [m]) q (wrap64 (m + 1)) (by simp [hp]) (by simpa using hq) (by omega) (by omega)]
      simp [marks, markEnd]
theorem markIntS_ev (l : List Int) (m : Int) (hn : l.length ≤ 9223372036854775807) : Ev (fun k => laws_markIntS.f k l m) (markEnd m l.length, marks m l.length) := by
  refine ⟨l.length + 1, fun k hk => ?_⟩
  show laws_markIntS.f k l m = _
  unfold laws_markIntS.f
  have := markIntS_l0 l.length k 0 [] l m rfl rfl (by omega) (by omega)
  simpa using this
theorem heldIntS_l0 (n : Nat) : ∀ (k j : Nat) (p : List Int) (m : Int), p.length = j → j + n ≤ 9223372036854775807 → n < k →
    laws_heldIntS.l0 k (p ++ marks m n) m (j : Int) = some (markEnd m n) := by
  induction n with
  | zero =>
    intro k j p m hp hb hk
    obtain ⟨k, rfl⟩ : ∃ m, k = m + 1 := ⟨k - 1, by omega⟩
    rw [laws_heldIntS.l0, if_neg (by simp [marks]; omega)]; rfl
  | succ n ih =>
    intro k j p m hp hb hk
    obtain ⟨k, rfl⟩ : ∃ m, k = m + 1 := ⟨k - 1, by omega⟩
    have hl := marks_length n (wrap64 (m + 1))
    rw [laws_heldIntS.l0, marks]
    have hr : rd (p ++ m :: marks (wrap64 (m + 1)) n) (j : Int) = m := by
      rw [rd_nat _ _ (by simp; omega), List.getElem_append_right (by omega)]; simp [hp]
    rw [if_pos (by simp; omega), if_pos (by omega), if_pos hr, wrap_succ (i := (j : Int)) (n := j + n + 1) (by omega) (by omega) (by omega)]
    have e2 : ((j : Int) + 1) = ((j + 1 : Nat) : Int) := rfl
    have e3 : p ++ m :: marks (wrap64 (m + 1)) n = (p ++ [m]) ++ marks (wrap64 (m + 1)) n := by simp
    rw [e2, e3, ih k (j + 1) (p ++ [m]) (wrap64 (m + 1)) (by simp [hp]) (by omega) (by omega)]
    rfl
theorem heldIntS_ev (m : Int) (n : Nat) (hn : n ≤ 9223372036854775807) : Ev (fun k => laws_heldIntS.f k (marks m n) m) (markEnd m n) := by
  refine ⟨n + 1, fun k hk => ?_⟩
  show laws_heldIntS.f k (marks m n) m = _
  unfold laws_heldIntS.f
  have := heldIntS_l0 n k 0 [] m rfl (by omega) (by omega)
  simpa using this
theorem markEnd_eq (n : Nat) : ∀ m : Int, 0 ≤ m → m + n ≤ 9223372036854775807 → markEnd m n = m + n := by
  induction n with
  | zero => intro m h0 h1; simp [markEnd]
  | succ n ih =>
    intro m h0 h1
    simp only [markEnd]
    rw [wrap_in (by omega) (by omega), ih (m + 1) (by omega) (by omega)]
    omega
theorem markLadder_ev (a : Int) (l : List Int) (m : Int) (hn : l.length ≤ 9223372036854775807) : Ev (fun k => laws_markLadder.f k a l m) (markEnd m l.length, marks m l.length) := by
  unfold laws_markLadder.f
  exact Ev.bind (markIntS_ev l m hn) (Ev.now _)
theorem heldLadder_ev (a : Int) (m : Int) (n : Nat) (h0 : 0 ≤ m) (hn : m + n ≤ 9223372036854775807) : Ev (fun k => laws_heldLadder.f k a (marks m n) m) (markEnd m n) := by
  unfold laws_heldLadder.f
  refine Ev.bind (heldIntS_ev m n (by omega)) ?_
  have := markEnd_eq n m h0 hn
  have h : ¬ markEnd m n < 0 := by omega
  simp only [h, if_false]
  exact Ev.now _
def smallSS (l : List (List Int)) : Prop := l.length ≤ 1000000 ∧ ∀ r ∈ l, r.length ≤ 1000000
def marksSS (m : Int) : List (List Int) → List (List Int)
  | [] => []
  | r :: l => marks m r.length :: marksSS (markEnd m r.length) l
def markEndSS (m : Int) : List (List Int) → Int
  | [] => m
  | r :: l => markEndSS (markEnd m r.length) l
theorem marksSS_length (l : List (List Int)) : ∀ m, (marksSS m l).length = l.length := by
  induction l with
  | nil => intro m; rfl
  | cons r l ih => intro m; simp [marksSS, ih]
theorem rdL_nat (l : List (List Int)) (i : Nat) (hi : i < l.length) : rd_L1 l (i : Int) = l[i] := by
  unfold rd_L1; simp [hi]
theorem markIntSS_rows (l : List (List Int)) : ∀ m, (∀ r ∈ l, r.length ≤ 1000000) → Ev (fun k => markRows k l m) (markEndSS m l, marksSS m l) := by
  induction l with
  | nil => intro m _; exact Ev.now _
  | cons r l ih =>
    intro m h
    refine Ev.bind (markIntS_ev r m (by have := h r (by simp); omega)) ?_
    exact Ev.bind (ih _ (fun q hq => h q (by simp [hq]))) (Ev.now _)
theorem markIntSS_ev (l : List (List Int)) (m : Int) (h : smallSS l) : Ev (fun k => laws_markIntSS.f k l m) (markEndSS m l, marksSS m l) := markIntSS_rows l m h.2
theorem markEndSS_pos (l : List (List Int)) : ∀ m : Int, 0 ≤ m → m + 1000000 * (l.length : Int) ≤ 9000000000000000000 → (∀ r ∈ l, r.length ≤ 1000000) → 0 ≤ markEndSS m l := by
  induction l with
  | nil => intro m h _ _; exact h
  | cons r l ih =>
    intro m h0 h1 h
    have hr := h r (by simp)
    rw [List.length_cons] at h1
    have e := markEnd_eq r.length m h0 (by omega)
    rw [markEndSS]
    exact ih _ (by omega) (by omega) (fun q hq => h q (by simp [hq]))
theorem heldIntSS_l0 (l : List (List Int)) : ∀ (p : List (List Int)) (m : Int), 0 ≤ m → m + 1000000 * (l.length : Int) ≤ 9000000000000000000 → (∀ r ∈ l, r.length ≤ 1000000) → p.length + l.length ≤ 1000000 →
    Ev (fun k => laws_heldIntSS.l0 k (p ++ marksSS m l) m (p.length : Int)) (markEndSS m l) := by
  induction l with
  | nil =>
    intro p m _ _ _ _
    refine Ev.succ (Ev.ret fun k => ?_)
    rw [laws_heldIntSS.l0, if_neg (by simp [marksSS])]; rfl
  | cons r l ih =>
    intro p m h0 h1 h hp
    have hr := h r (by simp)
    rw [List.length_cons] at h1 hp
    have e := markEnd_eq r.length m h0 (by omega)
    refine Ev.succ ?_
    have hl := marksSS_length l (markEnd m r.length)
    have hlen : p.length < (p ++ marksSS m (r :: l)).length := by rw [List.length_append, marksSS_length]; simp
    have g1 : (p.length : Int) < ((p ++ marksSS m (r :: l)).length : Int) := by omega
    have g2 : (0 : Int) ≤ (p.length : Int) := by omega
    have e2 : rd_L1 (p ++ marksSS m (r :: l)) (p.length : Int) = marks m r.length := by
      rw [rdL_nat _ _ hlen, List.getElem_append_right (by omega)]; simp [marksSS]
    have g3 : ¬ markEnd m r.length < 0 := by omega
    simp only [laws_heldIntSS.l0, g1, g2, if_true, e2, wrap_nat p.length (p.length + 1) (by omega) (by omega)]
    refine Ev.bind (heldIntS_ev m r.length (by omega)) ?_
    simp only [g3, if_false]
    have e3 : p ++ marksSS m (r :: l) = (p ++ [marks m r.length]) ++ marksSS (markEnd m r.length) l := by simp [marksSS]
    have e4 : (p ++ [marks m r.length]).length = p.length + 1 := by simp
    have := ih (p ++ [marks m r.length]) (markEnd m r.length) (by omega) (by omega) (fun q hq => h q (by simp [hq])) (by rw [e4]; omega)
    rw [e4] at this
    rw [e3]
    exact this
theorem heldIntSS_ev (l : List (List Int)) (m : Int) (h : smallSS l) (h0 : 0 ≤ m) (h1 : m ≤ 10) : Ev (fun k => laws_heldIntSS.f k (marksSS m l) m) (markEndSS m l) := by
  unfold laws_heldIntSS.f
  have := heldIntSS_l0 l [] m h0 (by have := h.1; omega) h.2 (by have := h.1; simpa using this)
  simpa using this
theorem markEndSS_neg (l : List (List Int)) (h : smallSS l) : ¬ markEndSS 1 l < 0 := by
  have := markEndSS_pos l 1 (by omega) (by have := h.1; omega) h.2
  omega
theorem eqIntSS_refl (l : List (List Int)) (h : smallSS l) : Ev (fun k => laws_eqIntSS.f k l l) true := by
  unfold laws_eqIntSS.f
  have key := Ev.upto (L := fun k j (_ : Unit) => laws_eqIntSS.l0 k l l (j : Int)) (R := fun _ _ => true) (n := l.length)
    (fun _ => by
      refine Ev.succ (Ev.ret fun k => ?_)
      rw [laws_eqIntSS.l0, if_neg (by omega)])
    (fun j _ hj ih => by
      refine Ev.succ ?_
      have h1 := h.1
      have g1 : (j : Int) < (l.length : Int) := by omega
      have g2 : (0 : Int) ≤ (j : Int) := by omega
      simp only [laws_eqIntSS.l0, g1, g2, if_true, rdL_nat l j hj, wrap_nat j l.length hj (by omega)]
      refine Ev.bind (eqIntS_refl l[j] (by have := h.2 l[j] (List.getElem_mem hj); omega)) ?_
      simp only [if_true]
      exact ih ())
  simp only [if_true]
  exact key 0 () (Nat.zero_le _)
theorem MeetingTable_spec (n : Nat) (l : List Int) (hn : n ≤ 8) (hl : l.length ≤ 60) : Ev (fun k => spec_MeetingTable.l0 k [] 0 (n : Int) l) (meetTab n l, true) := by
  have key := Ev.inv (σ := List (List Int)) (L := fun k j s => spec_MeetingTable.l0 k s (j : Int) (n : Int) l) (r := (meetTab n l, true)) (n := n)
    (Inv := fun j s => s = (meetTab n l).take j)
    (fun s hs => by
      subst hs
      refine Ev.succ (Ev.ret fun k => ?_)
      rw [spec_MeetingTable.l0, if_neg (by omega), List.take_of_length_le (by rw [meetTab_length]; omega)])
    (fun i s hi hs ih => by
      subst hs
      refine Ev.succ ?_
      have h1 : (i : Int) < (n : Int) := by omega
      simp only [spec_MeetingTable.l0, h1, if_true]
      have key2 := Ev.inv (σ := List Int) (L := fun k j s => spec_MeetingTable.l1 k ((meetTab n l).take i) (i : Int) s (j : Int) (n : Int) l) (r := (meetTab n l, true)) (n := n)
        (Inv := fun j s => s = (meetRow n l i).take j)
        (fun s hs => by
          subst hs
          refine Ev.succ ?_
          have g1 : ¬ (n : Int) < (n : Int) := by omega
          have g2 : ((meetTab n l).take i).length < 5864062014805 := by rw [List.length_take, meetTab_length]; omega
          simp only [spec_MeetingTable.l1, g1, g2, if_true, if_false, wrap_nat i n hi (by omega)]
          rw [List.take_of_length_le (l := meetRow n l i) (by rw [meetRow_length]; omega)]
          exact ih _ (meetTab_take n l i hi).symm)
        (fun j s hj hs ih2 => by
          subst hs
          refine Ev.succ ?_
          have g1 : (j : Int) < (n : Int) := by omega
          have g2 : ((meetRow n l i).take j).length < 17592186044416 := by rw [List.length_take, meetRow_length]; omega
          simp only [spec_MeetingTable.l1, g1, g2, if_true, wrap_nat j n hj (by omega)]
          have e := meetRow_take n l i j hj
          refine Ev.ite (fun c => ?_) (fun c => ?_)
          · refine ih2 _ ?_
            rw [e, if_pos (by omega)]
          · refine Ev.bind (laMeet_ev l _ _ (by omega)) ?_
            refine ih2 _ ?_
            rw [e, if_neg (by omega)])
      exact key2 0 [] (Nat.zero_le _) rfl)
  exact key 0 [] (Nat.zero_le _) rfl
theorem MeetingTable_impl (n : Nat) (l : List Int) (h : isLadderB (n : Int) l = true) : Ev (fun k => impl_MeetingTable.l0 k [] (n : Int) 0 (n : Int) l) (meetTab n l, true) := by
  have hl := (isLadderB_iff _ l).1 h
  have key := Ev.inv (σ := List (List Int)) (L := fun k j s => impl_MeetingTable.l0 k s (n : Int) (j : Int) (n : Int) l) (r := (meetTab n l, true)) (n := n)
    (Inv := fun j s => s = (meetTab n l).take j)
    (fun s hs => by
      subst hs
      refine Ev.succ (Ev.ret fun k => ?_)
      rw [impl_MeetingTable.l0, if_neg (by omega), List.take_of_length_le (by rw [meetTab_length]; omega)])
    (fun i s hi hs ih => by
      subst hs
      refine Ev.succ ?_
      have h1 : (i : Int) < (n : Int) := by omega
      simp only [impl_MeetingTable.l0, h1, if_true]
      have key2 := Ev.inv (σ := List Int) (L := fun k j s => impl_MeetingTable.l1 k ((meetTab n l).take i) (i : Int) s (n : Int) (i : Int) (n : Int) (j : Int) (n : Int) l) (r := (meetTab n l, true)) (n := n)
        (Inv := fun j s => s = (meetRow n l i).take j)
        (fun s hs => by
          subst hs
          refine Ev.succ ?_
          have g1 : ¬ (n : Int) < (n : Int) := by omega
          have g2 : ((meetTab n l).take i).length < 5864062014805 := by rw [List.length_take, meetTab_length]; omega
          simp only [impl_MeetingTable.l1, g1, g2, if_true, if_false, wrap_nat i n hi (by omega)]
          rw [List.take_of_length_le (l := meetRow n l i) (by rw [meetRow_length]; omega)]
          exact ih _ (meetTab_take n l i hi).symm)
        (fun j s hj hs ih2 => by
          subst hs
          refine Ev.succ ?_
          have g1 : (j : Int) < (n : Int) := by omega
          have g2 : ((meetRow n l i).take j).length < 17592186044416 := by rw [List.length_take, meetRow_length]; omega
          simp only [impl_MeetingTable.l1, g1, g2, if_true, wrap_nat j n hj (by omega)]
          refine Ev.bind (MeetingsOf_ev n l i j h hi hj) ?_
          refine ih2 _ ?_
          rw [meetRow_take n l i j hj]
          by_cases c : i = j
          · rw [if_pos c, if_pos c]
          · rw [if_neg c, if_neg c])
      exact key2 0 [] (Nat.zero_le _) rfl)
  exact key 0 [] (Nat.zero_le _) rfl
theorem MeetingTable_both (a : Int) (l : List Int) : ∃ r, Ev (fun k => spec_MeetingTable.f k a l) r ∧ Ev (fun k => impl_MeetingTable.f k a l) r ∧ smallSS r.1 := by
  by_cases h : isLadderB a l = true
  · have hl := (isLadderB_iff a l).1 h
    obtain ⟨n, rfl⟩ : ∃ n : Nat, a = n := ⟨a.toNat, by omega⟩
    refine ⟨(meetTab n l, true), ?_, ?_, by simp only; rw [meetTab_length]; omega, fun r hr => ?_⟩
    · unfold spec_MeetingTable.f
      refine Ev.bind (laGood_ev _ l) ?_
      simp only [h, if_true]
      exact MeetingTable_spec n l (by omega) (by omega)
    · unfold impl_MeetingTable.f impl_isLadder.f
      simp only [Option.bind_some, h, if_true]
      exact MeetingTable_impl n l h
    · simp only [meetTab, List.mem_map] at hr
      obtain ⟨i, _, rfl⟩ := hr
      rw [meetRow_length]; omega
  · have h' : isLadderB a l = false := by simpa using h
    refine ⟨([], false), ?_, ?_, by simp [smallSS]⟩
    · unfold spec_MeetingTable.f
      refine Ev.bind (laGood_ev _ l) ?_
      simp only [h', Bool.false_eq_true, if_false]; exact Ev.now _
    · unfold impl_MeetingTable.f impl_isLadder.f
      simp only [Option.bind_some, h', Bool.false_eq_true, if_false]
      exact Ev.now _
theorem FnExactMeetingTable : ∀ (a0_0 : Int) (l0_1 : List Int), (Lit.int .i64 a0_0).wf = true → l0_1.length ≤ maxLen → (∀ x ∈ l0_1, (Lit.int .i64 x).wf = true) → ∃ k, laws_FnExactMeetingTable.f k a0_0 l0_1 = some true := by
  intro a l _ hm _
  unfold maxLen at hm
  refine Ev.rounds ?_
  unfold laws_FnExactMeetingTable.f
  simp only [szLadder_f a l hm, Option.bind_some]
  by_cases hl : l.length ≤ 1048576
  · have h2 : ¬ (1048576 - (l.length : Int)) < 0 := by omega
    obtain ⟨r, hs, hi, hsm⟩ := MeetingTable_both a l
    have hneg := markEndSS_neg r.1 hsm
    have hneg2 : ¬ markEnd 1 l.length < 0 := by have := markEnd_eq l.length 1 (by omega) (by omega); omega
    simp only [hl, if_true, h2, if_false]
    repeat' (first
      | exact Ev.now _
      | ((with_reducible refine Ev.bind hs ?_); try dsimp only)
      | ((with_reducible refine Ev.bind hi ?_); try dsimp only)
      | ((with_reducible refine Ev.bind (toLadder_ev _ _ (by omega)) ?_); try dsimp only)
      | ((with_reducible refine Ev.bind (toIntS_ev _ (by omega)) ?_); try dsimp only)
      | ((with_reducible refine Ev.bind (eqLadder_refl _ _ (by omega)) ?_); try dsimp only)
      | ((with_reducible refine Ev.bind (eqIntS_refl _ (by omega)) ?_); try dsimp only)
      | ((with_reducible refine Ev.bind (markLadder_ev _ _ _ (by omega)) ?_); try dsimp only)
      | ((with_reducible refine Ev.bind (markIntS_ev _ _ (by omega)) ?_); try dsimp only)
      | ((with_reducible refine Ev.bind (heldLadder_ev _ _ _ (by omega) (by omega)) ?_); try dsimp only)
      | ((with_reducible refine Ev.bind (heldIntS_ev _ _ (by omega)) ?_); try dsimp only)
      | ((with_reducible refine Ev.bind (eqIntSS_refl _ (by assumption)) ?_); try dsimp only)
      | ((with_reducible refine Ev.bind (markIntSS_ev _ _ (by assumption)) ?_); try dsimp only)
      | ((with_reducible refine Ev.bind (heldIntSS_ev _ _ (by assumption) (by omega) (by omega)) ?_); try dsimp only)
      | simp only [if_true, if_false, bne_self_eq_false, Bool.false_eq_true, eq_self, Option.bind_some, hneg, hneg2]
      )
  · simp only [hl, if_false]
    simpa using Ev.now _
end Go.Proofs.Ytjppgokdocjljaa.Q
