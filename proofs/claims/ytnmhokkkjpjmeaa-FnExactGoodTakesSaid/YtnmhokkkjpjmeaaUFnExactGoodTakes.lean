/- The pure statement of FnExactGoodTakes: the program's GoodTakes and the reference's give the same. Conditions: none beyond the law's own. -/
import Derived.Test.YtnmhokkkjpjmeaaE
import Derived.Test.YtnmhokkkjpjmeaaB1
import Derived.Test.YtnmhokkkjpjmeaaB7
import Derived.Test.YtnmhokkkjpjmeaaB12
import Derived.Test.YtnmhokkkjpjmeaaB5
import Derived.Test.YtnmhokkkjpjmeaaB3
import Derived.Test.YtnmhokkkjpjmeaaB11
namespace Go.Proofs.Ytnmhokkkjpjmeaa.Q
open Go.RowKit Go.Proofs.Ytnmhokkkjpjmeaa.B Go.Proofs.YtnmhokkkjpjmeaaW.PrintWords Go.Proofs.YtnmhokkkjpjmeaaW.PrintLast Go.Proofs.YtnmhokkkjpjmeaaW.PrintMore
set_option linter.unusedVariables false
set_option linter.unusedSimpArgs false
/-! Steps of indices. -/
theorem wrap_succ {i : Int} {n : Nat} (h0 : 0 ≤ i) (h : i < (n : Int)) (hn : n ≤ 9223372036854775807) : wrap64 (i + 1) = i + 1 := by
  unfold wrap64; omega
theorem wrap_in {i : Int} (h0 : -9223372036854775808 ≤ i) (h : i ≤ 9223372036854775807) : wrap64 i = i := by
  unfold wrap64; omega
theorem rd_nat (l : List Int) (j : Nat) (hj : j < l.length) : rd l (j : Int) = l[j] := by
  unfold rd; simp [hj]
theorem copy_step (l : List Int) (j : Nat) (hj : j < l.length) :
    (l.take j ++ List.replicate (l.length - j) 0).set j (l.getD j 0) = l.take (j + 1) ++ List.replicate (l.length - (j + 1)) 0 := by
  have e1 : l.length - j = (l.length - (j + 1)) + 1 := by omega
  have e2 : (l.take j).length = j := by rw [List.length_take]; omega
  rw [List.set_append_right (h := by omega), e2, e1, List.replicate_succ, Nat.sub_self, List.set_cons_zero, List.take_succ_eq_append_getElem hj, List.append_assoc]
  rw [List.getD_eq_getElem?_getD, List.getElem?_eq_getElem hj]
  rfl
/-! Rounds. -/
theorem Ev.succ {α : Type} {g : Nat → Option α} {r : α} (h : Ev (fun k => g (k + 1)) r) : Ev g r := Ev.step (f := fun k => g (k + 1)) (fun _ => rfl) h
theorem Ev.ret {α : Type} {g : Nat → Option α} {r : α} (h : ∀ k, g k = some r) : Ev g r := ⟨0, fun k _ => h k⟩
theorem Ev.eq {α : Type} {g : Nat → Option α} {r r' : α} (h : Ev g r) (e : r = r') : Ev g r' := e ▸ h
theorem Ev.iteb {α : Type} {b : Bool} {f g : Nat → Option α} {r : α} (h1 : b = true → Ev f r) (h2 : b = false → Ev g r) : Ev (fun k => if b = true then f k else g k) r := by
  cases b with
  | true => simpa using h1 rfl
  | false => simpa using h2 rfl
theorem Ev.ite {α : Type} {p : Prop} [Decidable p] {f g : Nat → Option α} {r : α} (h1 : p → Ev f r) (h2 : ¬ p → Ev g r) : Ev (fun k => if p then f k else g k) r := by
  by_cases h : p
  · simpa [h] using h1 h
  · simpa [h] using h2 h
/-- A loop over the places j, j+1, .., n: its state s, what it answers from a place and a state on. -/
theorem Ev.upto {σ ρ : Type} {L : Nat → Nat → σ → Option ρ} {R : Nat → σ → ρ} {n : Nat} (hend : ∀ s, Ev (fun k => L k n s) (R n s)) (hstep : ∀ j s, j < n → (∀ s', Ev (fun k => L k (j + 1) s') (R (j + 1) s')) → Ev (fun k => L k j s) (R j s)) :
    ∀ j s, j ≤ n → Ev (fun k => L k j s) (R j s) := by
  intro j s hj
  obtain ⟨d, hd⟩ : ∃ d, d = n - j := ⟨_, rfl⟩
  induction d generalizing j s with
  | zero => obtain rfl : j = n := by omega
            exact hend s
  | succ d ih => exact hstep j s (by omega) (fun s' => ih (j + 1) s' (by omega) (by omega))
theorem nat_succ (j : Nat) : ((j : Int) + 1) = ((j + 1 : Nat) : Int) := rfl
theorem wrap_nat (j n : Nat) (h : j < n) (hn : n ≤ 9223372036854775807) : wrap64 ((j : Int) + 1) = ((j + 1 : Nat) : Int) := by
  unfold wrap64; omega
theorem nat_toNat (j : Nat) : ((j : Int)).toNat = j := rfl
theorem take_snoc {α : Type} (l : List α) (j : Nat) (h : j < l.length) : l.take (j + 1) = l.take j ++ [l[j]] := List.take_succ_eq_append_getElem h
theorem Ev.inv {σ ρ : Type} {L : Nat → Nat → σ → Option ρ} {Inv : Nat → σ → Prop} {r : ρ} {n : Nat} (hend : ∀ s, Inv n s → Ev (fun k => L k n s) r) (hstep : ∀ j s, j < n → Inv j s → (∀ s', Inv (j + 1) s' → Ev (fun k => L k (j + 1) s') r) → Ev (fun k => L k j s) r) :
    ∀ j s, j ≤ n → Inv j s → Ev (fun k => L k j s) r := by
  intro j s hj hi
  obtain ⟨d, hd⟩ : ∃ d, d = n - j := ⟨_, rfl⟩
  induction d generalizing j s with
  | zero => obtain rfl : j = n := by omega
            exact hend s hi
  | succ d ih => exact hstep j s (by omega) hi (fun s' hs' => ih (j + 1) s' (by omega) hs' (by omega))
theorem l1In_f (a b c : Int) : spec_l1In.f a b c = some (inB a b c) := by
  unfold spec_l1In.f inB
  split
  · rename_i h; simp [h]
  · rename_i h; simp; omega
theorem inB_iff (a b c : Int) : inB a b c = true ↔ b ≤ a ∧ a ≤ c := by unfold inB; simp
theorem l1All_ev (l : List Int) (lo hi : Int) (hn : l.length ≤ 9223372036854775807) : Ev (fun k => spec_l1All.f k l lo hi) (l.all fun x => inB x lo hi) := by
  have key := Ev.upto (L := fun k j (_ : Unit) => spec_l1All.l0 k lo hi l (l.length : Int) (j : Int)) (R := fun j _ => (l.drop j).all fun x => inB x lo hi) (n := l.length)
    (fun _ => by
      refine Ev.succ (Ev.ret fun k => ?_)
      rw [spec_l1All.l0, if_neg (by omega)]; simp)
    (fun j _ hj ih => by
      refine Ev.succ ?_
      have h1 : (j : Int) < (l.length : Int) := by omega
      have h0 : (0 : Int) ≤ (j : Int) := by omega
      simp only [spec_l1All.l0, h1, h0, if_true, l1In_f, rd_nat l j hj, Option.bind_some, wrap_nat j _ hj hn]
      rw [List.drop_eq_getElem_cons hj, List.all_cons]
      refine Ev.iteb (fun h => ?_) (fun h => ?_)
      · rw [h, Bool.true_and]; exact ih ()
      · rw [h, Bool.false_and]; exact Ev.now _)
  have := key 0 () (Nat.zero_le _)
  rw [List.drop_zero] at this
  exact this
theorem laGood_ev (a : Int) (l : List Int) : Ev (fun k => spec_laGood.f k a l) (isLadderB a l) := by
  unfold spec_laGood.f isLadderB
  simp only [l1In_f, Option.bind_some]
  refine Ev.iteb (fun h => ?_) (fun h => ?_)
  · rw [h, Bool.true_and]
    refine Ev.ite (fun h2 => ?_) (fun h2 => ?_)
    · have h3 : decide (l.length ≤ 60) = true := by simp; omega
      rw [h3, Bool.true_and]
      refine Ev.bind (l1All_ev l 0 _ (by omega)) ?_
      refine Ev.eq (Ev.now _) ?_
      rw [List.all_eq_not_any_not]
    · have h3 : decide (l.length ≤ 60) = false := by simp; omega
      rw [h3, Bool.false_and]; exact Ev.now _
  · rw [h, Bool.false_and]; exact Ev.now _
theorem isLadderB_iff (a : Int) (l : List Int) : isLadderB a l = true ↔ 2 ≤ a ∧ a ≤ 8 ∧ l.length ≤ 60 ∧ ∀ r ∈ l, 0 ≤ r ∧ r ≤ a - 2 := by
  unfold isLadderB
  by_cases h : 2 ≤ a ∧ a ≤ 8
  · have e : wrap64 (a - 2) = a - 2 := wrap_in (by omega) (by omega)
    rw [e]
    simp [inB, h.1, h.2]
  · constructor
    · intro h2; simp [inB] at h2; exact absurd h2.1 h
    · intro h2; exact absurd ⟨h2.1, h2.2.1⟩ h
def ovr (w r : Int) : Int := if w = r then wrap64 (r + 1) else if w = wrap64 (r + 1) then r else w
theorem ovr_in {w : Int} {n r : Nat} (h0 : 0 ≤ w) (h1 : w < n) (hr : r < n - 1) (hn : n ≤ 8) : 0 ≤ ovr w r ∧ ovr w r < n := by
  have e : wrap64 ((r : Int) + 1) = (r : Int) + 1 := wrap_in (by omega) (by omega)
  unfold ovr
  rw [e]
  split
  · omega
  · split <;> omega
/-- Where one comes out. -/
def endOf (w : Int) (rungs : List Int) : Int := rungs.foldl ovr w
def downs (w : Int) : List Int → List Int
  | [] => [w]
  | r :: l => w :: downs (ovr w r) l
theorem downs_length (l : List Int) : ∀ w, (downs w l).length = l.length + 1 := by
  induction l with
  | nil => intro w; rfl
  | cons r l ih => intro w; simp [downs, ih]
theorem downs_last (l : List Int) : ∀ w, (downs w l)[l.length]? = some (endOf w l) := by
  induction l with
  | nil => intro w; rfl
  | cons r l ih => intro w; simp [downs, endOf]; exact ih _
theorem downs_snoc (l : List Int) (r : Int) : ∀ w, downs w (l ++ [r]) = downs w l ++ [ovr (endOf w l) r] := by
  induction l with
  | nil => intro w; rfl
  | cons q l ih => intro w; simp [downs, ih, endOf]
theorem endOf_snoc (l : List Int) (r w : Int) : endOf w (l ++ [r]) = ovr (endOf w l) r := by simp [endOf]
/-- The result. -/
def res (n : Nat) (l : List Int) : List Int := (List.range n).map fun (i : Nat) => endOf (i : Int) l
theorem res_length (n : Nat) (l : List Int) : (res n l).length = n := by simp [res]
theorem res_take (n j : Nat) (l : List Int) (h : j < n) : (res n l).take (j + 1) = (res n l).take j ++ [endOf (j : Int) l] := by
  have hj : j < (res n l).length := by rw [res_length]; exact h
  rw [take_snoc _ j hj]; simp [res]
theorem laOver_f (w r : Int) : spec_laOver.f w r = some (ovr w r) := by
  unfold spec_laOver.f ovr; split
  · rfl
  · split <;> rfl
theorem laDown_ev (l : List Int) (w : Int) (hn : l.length ≤ 1000000) : Ev (fun k => spec_laDown.f k l w) (downs w l) := by
  have key := Ev.inv (σ := Int × List Int) (L := fun k j s => spec_laDown.l0 k s.1 s.2 l (l.length : Int) (j : Int)) (r := downs w l) (n := l.length)
    (Inv := fun j s => s.1 = endOf w (l.take j) ∧ s.2 = downs w (l.take j))
    (fun s hs => by
      obtain ⟨s1, s2⟩ := s; obtain ⟨rfl, rfl⟩ := hs
      refine Ev.succ (Ev.ret fun k => ?_)
      rw [spec_laDown.l0, if_neg (by omega), List.take_length])
    (fun j s hj hs ih => by
      obtain ⟨s1, s2⟩ := s; obtain ⟨rfl, rfl⟩ := hs
      refine Ev.succ ?_
      have h1 : (j : Int) < (l.length : Int) := by omega
      have h0 : (0 : Int) ≤ (j : Int) := by omega
      have h2 : (downs w (l.take j)).length < 17592186044416 := by rw [downs_length, List.length_take]; omega
      simp only [spec_laDown.l0, h1, h0, h2, if_true, rd_nat l j hj, wrap_nat j _ hj (by omega), laOver_f, Option.bind_some]
      have e1 : ovr (endOf w (l.take j)) l[j] = endOf w (l.take (j + 1)) := by rw [take_snoc l j hj, endOf_snoc]
      have e2 : downs w (l.take j) ++ [ovr (endOf w (l.take j)) l[j]] = downs w (l.take (j + 1)) := by rw [take_snoc l j hj, downs_snoc]
      exact ih (_, _) ⟨e1, e2⟩)
  exact key 0 (w, [w]) (Nat.zero_le _) ⟨rfl, rfl⟩
theorem laResult_ev (n : Nat) (l : List Int) (hn : n ≤ 8) (hl : l.length ≤ 1000000) : Ev (fun k => spec_laResult.f k (n : Int) l) (res n l) := by
  have key := Ev.inv (σ := List Int) (L := fun k j s => spec_laResult.l0 k (n : Int) l s (j : Int)) (r := res n l) (n := n)
    (Inv := fun j s => s = (res n l).take j)
    (fun s hs => by
      subst hs
      refine Ev.succ (Ev.ret fun k => ?_)
      rw [spec_laResult.l0, if_neg (by omega), List.take_of_length_le (by rw [res_length]; omega)])
    (fun j s hj hs ih => by
      subst hs
      refine Ev.succ ?_
      have h1 : (j : Int) < (n : Int) := by omega
      have h0 : (0 : Int) ≤ (l.length : Int) := by omega
      have h2 : (l.length : Int) < ((downs (j : Int) l).length : Int) := by rw [downs_length]; omega
      have h3 : ((res n l).take j).length < 17592186044416 := by rw [List.length_take, res_length]; omega
      simp only [spec_laResult.l0, h1, if_true, wrap_nat j n hj (by omega)]
      refine Ev.bind (laDown_ev l (j : Int) hl) ?_
      have e : rd (downs (j : Int) l) (l.length : Int) = endOf (j : Int) l := by
        unfold rd; rw [nat_toNat, List.getD_eq_getElem?_getD, downs_last]; rfl
      simp only [h0, h2, h3, if_true, e]
      exact ih _ (res_take n j l hj).symm)
  exact key 0 [] (Nat.zero_le _) rfl
def homeB (n : Nat) (l : List Int) : Bool := (List.range' 0 n).all fun (i : Nat) => decide ((i : Int) = endOf (i : Int) l)
def idL (n : Nat) : List Int := (List.range n).map fun (i : Nat) => (i : Int)
theorem idL_length (n : Nat) : (idL n).length = n := by simp [idL]
theorem homeB_eq (n : Nat) (l : List Int) : homeB n l = decide (res n l = idL n) := by
  rw [Bool.eq_iff_iff]
  unfold homeB
  rw [List.all_eq_true, decide_eq_true_iff]
  constructor
  · intro h
    unfold res idL
    apply List.map_congr_left
    intro i hi
    have := h i (by simpa using hi)
    exact (of_decide_eq_true this).symm
  · intro h i hi
    have hi' : i < n := by simpa using hi
    have h1 : (res n l)[i]? = (idL n)[i]? := by rw [h]
    simp [res, idL, hi'] at h1
    simp [h1]
theorem gaHome_ev (n : Nat) (l : List Int) (hn : n ≤ 8) (hl : l.length ≤ 1000000) : Ev (fun k => spec_gaHome.f k (n : Int) l) (homeB n l) := by
  unfold spec_gaHome.f
  refine Ev.bind (laResult_ev n l hn hl) ?_
  have key := Ev.upto (L := fun k j (_ : Unit) => spec_gaHome.l0 k (res n l) ((res n l).length : Int) (j : Int)) (R := fun j _ => (List.range' j (n - j)).all fun i => decide ((i : Int) = endOf (i : Int) l)) (n := n)
    (fun _ => by
      refine Ev.succ (Ev.ret fun k => ?_)
      rw [spec_gaHome.l0, if_neg (by rw [res_length]; omega), Nat.sub_self]; rfl)
    (fun j _ hj ih => by
      refine Ev.succ ?_
      have h1 : (j : Int) < ((res n l).length : Int) := by rw [res_length]; omega
      have h0 : (0 : Int) ≤ (j : Int) := by omega
      have hj' : j < (res n l).length := by rw [res_length]; exact hj
      have e : n - j = (n - (j + 1)) + 1 := by omega
      have er : rd (res n l) (j : Int) = endOf (j : Int) l := by rw [rd_nat _ j hj']; simp [res]
      simp only [spec_gaHome.l0, h1, h0, if_true, er, wrap_nat j n hj (by omega)]
      rw [e, List.range'_succ, List.all_cons]
      refine Ev.ite (fun h => ?_) (fun h => ?_)
      · rw [decide_eq_true h, Bool.true_and]; exact ih ()
      · rw [decide_eq_false h, Bool.false_and]; exact Ev.now _)
  exact key 0 () (Nat.zero_le _)
theorem over_f (w r : Int) : impl_over.f w r = some (ovr w r) := by
  unfold impl_over.f ovr; split
  · rfl
  · split <;> rfl
theorem way_ev (a : Int) (l : List Int) (w : Int) (hn : l.length ≤ 1000000) : Ev (fun k => impl_way.f k a l w) (downs w l) := by
  have key := Ev.inv (σ := Int × List Int) (L := fun k j s => impl_way.l0 k s.1 s.2 l (l.length : Int) (j : Int)) (r := downs w l) (n := l.length)
    (Inv := fun j s => s.1 = endOf w (l.take j) ∧ s.2 = downs w (l.take j))
    (fun s hs => by
      obtain ⟨s1, s2⟩ := s; obtain ⟨rfl, rfl⟩ := hs
      refine Ev.succ (Ev.ret fun k => ?_)
      rw [impl_way.l0, if_neg (by omega), List.take_length])
    (fun j s hj hs ih => by
      obtain ⟨s1, s2⟩ := s; obtain ⟨rfl, rfl⟩ := hs
      refine Ev.succ ?_
      have h1 : (j : Int) < (l.length : Int) := by omega
      have h0 : (0 : Int) ≤ (j : Int) := by omega
      have h2 : (downs w (l.take j)).length < 17592186044416 := by rw [downs_length, List.length_take]; omega
      simp only [impl_way.l0, h1, h0, h2, if_true, rd_nat l j hj, wrap_nat j _ hj (by omega), over_f, Option.bind_some]
      have e1 : ovr (endOf w (l.take j)) l[j] = endOf w (l.take (j + 1)) := by rw [take_snoc l j hj, endOf_snoc]
      have e2 : downs w (l.take j) ++ [ovr (endOf w (l.take j)) l[j]] = downs w (l.take (j + 1)) := by rw [take_snoc l j hj, downs_snoc]
      exact ih (_, _) ⟨e1, e2⟩)
  exact key 0 (w, [w]) (Nat.zero_le _) ⟨rfl, rfl⟩
theorem result_ev (n : Nat) (l : List Int) (hn : n ≤ 8) (hl : l.length ≤ 1000000) : Ev (fun k => impl_result.f k (n : Int) l) (res n l) := by
  have key := Ev.inv (σ := List Int) (L := fun k j s => impl_result.l0 k (n : Int) l s (n : Int) (j : Int)) (r := res n l) (n := n)
    (Inv := fun j s => s = (res n l).take j)
    (fun s hs => by
      subst hs
      refine Ev.succ (Ev.ret fun k => ?_)
      rw [impl_result.l0, if_neg (by omega), List.take_of_length_le (by rw [res_length]; omega)])
    (fun j s hj hs ih => by
      subst hs
      refine Ev.succ ?_
      have h1 : (j : Int) < (n : Int) := by omega
      have h3 : ((res n l).take j).length < 17592186044416 := by rw [List.length_take, res_length]; omega
      simp only [impl_result.l0, h1, if_true, wrap_nat j n hj (by omega)]
      refine Ev.bind (way_ev (n : Int) l (j : Int) hl) ?_
      have e0 : wrap64 (((downs (j : Int) l).length : Int) - 1) = (l.length : Int) := by rw [downs_length]; unfold wrap64; omega
      have h0 : (0 : Int) ≤ (l.length : Int) := by omega
      have h2 : (l.length : Int) < ((downs (j : Int) l).length : Int) := by rw [downs_length]; omega
      have e : rd (downs (j : Int) l) (l.length : Int) = endOf (j : Int) l := by
        unfold rd; rw [nat_toNat, List.getD_eq_getElem?_getD, downs_last]; rfl
      simp only [e0, h0, h2, h3, if_true, e]
      exact ih _ (res_take n j l hj).symm)
  exact key 0 [] (Nat.zero_le _) rfl
theorem Equal_ev (a b : List Int) (hn : a.length ≤ 9223372036854775807) : Ev (fun k => slices_Equal_int_int.f k a b) (decide (a = b)) := by
  unfold slices_Equal_int_int.f
  refine Ev.ite (fun he => ?_) (fun he => ?_)
  · have he' : a.length = b.length := by omega
    have key := Ev.upto (L := fun k j (_ : Unit) => slices_Equal_int_int.l0 k a b (a.length : Int) (j : Int)) (R := fun j _ => decide (a.drop j = b.drop j)) (n := a.length)
      (fun _ => by
        refine Ev.succ (Ev.ret fun k => ?_)
        rw [slices_Equal_int_int.l0, if_neg (by omega), List.drop_length, List.drop_eq_nil_of_le (by omega)]; simp)
      (fun j _ hj ih => by
        refine Ev.succ ?_
        have h1 : (j : Int) < (a.length : Int) := by omega
        have h2 : (j : Int) < (b.length : Int) := by omega
        have h0 : (0 : Int) ≤ (j : Int) := by omega
        have hj2 : j < b.length := by omega
        simp only [slices_Equal_int_int.l0, h1, h2, h0, if_true, rd_nat a j hj, rd_nat b j hj2, wrap_nat j _ hj hn]
        rw [List.drop_eq_getElem_cons hj, List.drop_eq_getElem_cons hj2]
        refine Ev.ite (fun h => ?_) (fun h => ?_)
        · refine Ev.eq (ih ()) (decide_eq_decide.2 ?_)
          rw [List.cons.injEq]
          exact ⟨fun e => ⟨h, e⟩, fun e => e.2⟩
        · refine Ev.eq (Ev.now _) (decide_eq_false ?_).symm
          rw [List.cons.injEq]
          exact fun e => h e.1)
    have := key 0 () (Nat.zero_le _)
    rw [List.drop_zero, List.drop_zero] at this
    exact this
  · refine Ev.eq (Ev.now _) (decide_eq_false ?_).symm
    exact fun e => he (by rw [e])
theorem identity_ev (n : Nat) (hn : n ≤ 8) : Ev (fun k => impl_identity.f k (n : Int)) (idL n) := by
  have key := Ev.inv (σ := List Int) (L := fun k j s => impl_identity.l0 k s (n : Int) (j : Int)) (r := idL n) (n := n)
    (Inv := fun j s => s = (idL n).take j)
    (fun s hs => by
      subst hs
      refine Ev.succ (Ev.ret fun k => ?_)
      rw [impl_identity.l0, if_neg (by omega), List.take_of_length_le (by rw [idL_length]; omega)])
    (fun j s hj hs ih => by
      subst hs
      refine Ev.succ ?_
      have h1 : (j : Int) < (n : Int) := by omega
      have h3 : ((idL n).take j).length < 17592186044416 := by rw [List.length_take, idL_length]; omega
      simp only [impl_identity.l0, h1, h3, if_true, wrap_nat j n hj (by omega)]
      refine ih _ ?_
      have hj' : j < (idL n).length := by rw [idL_length]; exact hj
      rw [take_snoc _ j hj']; simp [idL])
  exact key 0 [] (Nat.zero_le _) rfl
theorem isHomely_ev (n : Nat) (l : List Int) (hn : n ≤ 8) (hl : l.length ≤ 1000000) : Ev (fun k => impl_isHomely.f k (n : Int) l) (homeB n l) := by
  unfold impl_isHomely.f
  refine Ev.bind (result_ev n l hn hl) (Ev.bind (identity_ev n hn) ?_)
  refine Ev.bind (Equal_ev _ _ (by rw [res_length]; omega)) ?_
  exact Ev.eq (Ev.now _) (homeB_eq n l).symm
def takingB (a : Int) (l : List Int) : Bool := isLadderB a l && (decide (l.length ≤ 12) && !(homeB a.toNat l))
theorem takingB_in {a : Int} {l : List Int} (h : takingB a l = true) : ∃ n : Nat, a = (n : Int) ∧ 2 ≤ n ∧ n ≤ 8 ∧ l.length ≤ 12 ∧ homeB n l = false ∧ isLadderB a l = true := by
  unfold takingB at h
  simp only [Bool.and_eq_true, decide_eq_true_eq, Bool.not_eq_true'] at h
  have hl := (isLadderB_iff a l).1 h.1
  exact ⟨a.toNat, by omega, by omega, by omega, h.2.1, h.2.2, h.1⟩
theorem gaTaking_ev (a : Int) (l : List Int) : Ev (fun k => spec_gaTaking.f k a l) (takingB a l) := by
  unfold spec_gaTaking.f takingB
  refine Ev.bind (laGood_ev _ l) ?_
  by_cases h : isLadderB a l = true
  · have hl := (isLadderB_iff a l).1 h
    obtain ⟨n, rfl⟩ : ∃ n : Nat, a = n := ⟨a.toNat, by omega⟩
    simp only [h, if_true, Bool.true_and]
    by_cases h2 : l.length ≤ 12
    · have g : (l.length : Int) ≤ 12 := by omega
      simp only [g, h2, if_true, decide_true, Bool.true_and]
      exact Ev.bind (gaHome_ev n l (by omega) (by omega)) (Ev.now _)
    · have g : ¬ (l.length : Int) ≤ 12 := by omega
      simp only [g, h2, if_false, decide_false, Bool.false_and]
      exact Ev.now _
  · have h' : isLadderB a l = false := by simpa using h
    simp only [h', Bool.false_eq_true, if_false, Bool.false_and]; exact Ev.now _
theorem isTaking_ev (a : Int) (l : List Int) : Ev (fun k => impl_isTaking.f k a l) (takingB a l) := by
  unfold impl_isTaking.f impl_isLadder.f takingB
  simp only [Option.bind_some]
  by_cases h : isLadderB a l = true
  · have hl := (isLadderB_iff a l).1 h
    obtain ⟨n, rfl⟩ : ∃ n : Nat, a = n := ⟨a.toNat, by omega⟩
    simp only [h, if_true, Bool.true_and]
    by_cases h2 : l.length ≤ 12
    · have g : (l.length : Int) ≤ 12 := by omega
      simp only [g, h2, if_true, decide_true, Bool.true_and]
      exact Ev.bind (isHomely_ev n l (by omega) (by omega)) (Ev.now _)
    · have g : ¬ (l.length : Int) ≤ 12 := by omega
      simp only [g, h2, if_false, decide_false, Bool.false_and]
      exact Ev.now _
  · have h' : isLadderB a l = false := by simpa using h
    simp only [h', Bool.false_eq_true, if_false, Bool.false_and]; exact Ev.now _
theorem shl_one : ∀ n : Nat, n ≤ 20 → shl .i64 1 (n : Int) = ((2 ^ n : Nat) : Int) := by decide +kernel
theorem pow_small (n : Nat) (h : n ≤ 8) : 2 ^ n ≤ 256 := Nat.pow_le_pow_right (n := 2) (by omega) h
theorem pow_12 (n : Nat) (h : n ≤ 12) : 2 ^ n ≤ 4096 := Nat.pow_le_pow_right (n := 2) (by omega) h
theorem shr_bit (s j : Nat) (h : j ≤ 60) : Int.tmod (shr .i64 (s : Int) (j : Int)) 2 = ((s / 2 ^ j % 2 : Nat) : Int) := by
  have e : shr .i64 (s : Int) (j : Int) = ((s / 2 ^ j : Nat) : Int) := by
    unfold shr
    rw [show min ((j : Int)).toNat (IntKind.i64).bits = j from by show min j 64 = j; omega]
    push_cast; rfl
  rw [e]
  generalize s / 2 ^ j = m
  rw [Int.tmod_eq_emod_of_nonneg (by omega)]
  omega
theorem gaLeft_ev (a : Int) (l : List Int) (hl : l.length ≤ 60) (s : Nat) : Ev (fun k => spec_gaLeft.f k a l (s : Int)) (leftR l s) := by
  unfold spec_gaLeft.f
  have key := Ev.inv (σ := List Int) (L := fun k j acc => spec_gaLeft.l0 k (s : Int) acc l (l.length : Int) (j : Int)) (r := leftR l s) (n := l.length)
    (Inv := fun j acc => acc ++ leftR (l.drop j) (s / 2 ^ j) = leftR l s ∧ acc.length ≤ j)
    (fun acc h => by
      refine Ev.succ (Ev.ret fun k => ?_)
      have e := h.1
      rw [List.drop_length, leftR, List.append_nil] at e
      rw [spec_gaLeft.l0, if_neg (by omega), e])
    (fun j acc hj h ih => by
      refine Ev.succ ?_
      have h1 : (j : Int) < (l.length : Int) := by omega
      have h0 : (0 : Int) ≤ (j : Int) := by omega
      have h3 : acc.length < 17592186044416 := by have := h.2; omega
      have e := h.1
      rw [leftR_drop l s j hj] at e
      simp only [spec_gaLeft.l0, h1, h0, h3, if_true, rd_nat l j hj, shr_bit s j (by omega), wrap_nat j l.length hj (by omega)]
      refine Ev.ite (fun c => ?_) (fun c => ?_)
      · rw [if_pos (by omega)] at e
        exact ih _ ⟨by rw [List.append_assoc]; exact e, by rw [List.length_append]; have := h.2; simp; omega⟩
      · rw [if_neg (by omega)] at e
        exact ih _ ⟨e, by have := h.2; omega⟩)
  exact key 0 [] (Nat.zero_le _) ⟨by simp, Nat.le_refl _⟩
theorem leftR_clr (l : List Int) : ∀ (t s : Nat), t < l.length → ¬ s / 2 ^ t % 2 = 0 → (leftR l (s - 2 ^ t)).length + 1 = (leftR l s).length := by
  induction l with
  | nil => intro t s h; simp at h
  | cons r l ih =>
    intro t s ht hs
    cases t with
    | zero =>
      rw [Nat.pow_zero, Nat.div_one] at hs
      rw [Nat.pow_zero, leftR, leftR, if_neg (by omega), if_pos (by omega), show (s - 1) / 2 = s / 2 by omega]
      rfl
    | succ t =>
      have e1 : s / 2 ^ (t + 1) = s / 2 / 2 ^ t := by rw [Nat.pow_succ, Nat.mul_comm, Nat.div_div_eq_div_mul]
      rw [e1] at hs
      have e2 := ih t (s / 2) (by simpa using ht) hs
      have e3 : (s - 2 ^ (t + 1)) / 2 = s / 2 - 2 ^ t := by rw [Nat.pow_succ]; omega
      have hge : 2 ^ t ≤ s / 2 := by
        rcases Nat.lt_or_ge (s / 2) (2 ^ t) with h | h
        · rw [Nat.div_eq_of_lt h] at hs; exact absurd rfl hs
        · exact h
      have e4 : (s - 2 ^ (t + 1)) % 2 = s % 2 := by rw [Nat.pow_succ]; omega
      rw [leftR, leftR, e3, e4]
      split
      · rw [List.length_cons, List.length_cons, e2]
      · exact e2
theorem leftR_zero (l : List Int) : leftR l 0 = [] := by
  induction l with
  | nil => rfl
  | cons r l ih => rw [leftR, if_neg (by omega)]; simpa using ih
theorem leftR_full : ∀ (l : List Int), leftR l (2 ^ l.length - 1) = l
  | [] => rfl
  | r :: l => by
    have h1 : 1 ≤ 2 ^ l.length := Nat.one_le_two_pow
    rw [leftR, List.length_cons, Nat.pow_succ, if_pos (by omega), show (2 ^ l.length * 2 - 1) / 2 = 2 ^ l.length - 1 by omega, leftR_full l]
theorem homeB_nil (n : Nat) : homeB n [] = true := by
  unfold homeB
  rw [List.all_eq_true]
  intro i _
  simp [endOf]
theorem bit_le {s i : Nat} (h : ¬ s / 2 ^ i % 2 = 0) : 2 ^ i ≤ s := by
  rcases Nat.lt_or_ge s (2 ^ i) with h1 | h1
  · rw [Nat.div_eq_of_lt h1] at h; exact absurd rfl h
  · exact h1
theorem bit_ex : ∀ (m s : Nat), s < 2 ^ m → s ≠ 0 → ∃ j, j < m ∧ ¬ s / 2 ^ j % 2 = 0
  | 0, s, h, h0 => by simp at h; omega
  | m + 1, s, h, h0 => by
    by_cases h1 : s % 2 = 0
    · obtain ⟨j, hj, hb⟩ := bit_ex m (s / 2) (by rw [Nat.pow_succ] at h; omega) (by omega)
      refine ⟨j + 1, by omega, ?_⟩
      rwa [Nat.pow_succ, Nat.mul_comm, ← Nat.div_div_eq_div_mul]
    · exact ⟨0, by omega, by simpa using h1⟩
/-! The reference's lists. -/
def nwG (H : Nat → Bool) (n : Nat) : Nat → Nat → List Bool → List Int → List Bool × List Int
  | 0, _, hs, ls => (hs, ls)
  | d + 1, s, hs, ls => if H s = true then nwG H n d (s + 1) (hs.set s true) ls else nwG H n d (s + 1) (hs.set s false) (ls.set s (nwEnd (nwIn (hs.set s false) ls s n 0 (0, 0))))
theorem nwGo_ev {hm : Nat → Nat → Option Bool} {H : Nat → Bool} (n : Nat) (h : ∀ s, Ev (fun k => hm k s) (H s)) : ∀ d s hs ls, Ev (fun k => nwGo (hm k) n d s hs ls) (nwG H n d s hs ls)
  | 0, _, _, _ => Ev.now _
  | d + 1, s, hs, ls => by
    simp only [nwGo, nwG]
    refine Ev.bind (h s) ?_
    refine Ev.iteb (fun c => ?_) (fun c => ?_)
    · rw [if_pos c]; exact nwGo_ev n h d _ _ _
    · rw [if_neg (by simp [c])]; exact nwGo_ev n h d _ _ _
theorem nwStep_congr {hs hs' : List Bool} {ls ls' : List Int} {s : Nat} (h : ∀ t, t < s → hs.getD t false = hs'.getD t false ∧ ls.getD t 0 = ls'.getD t 0) (i : Nat) (q : Int × Int) : nwStep hs ls s i q = nwStep hs' ls' s i q := by
  unfold nwStep
  by_cases hb : s / 2 ^ i % 2 = 0
  · rw [if_pos hb, if_pos hb]
  · have h1 := bit_le hb
    have h2 : 1 ≤ 2 ^ i := Nat.one_le_two_pow
    obtain ⟨e1, e2⟩ := h (s - 2 ^ i) (by omega)
    rw [if_neg hb, if_neg hb, e1, e2]
theorem nwIn_congr {hs hs' : List Bool} {ls ls' : List Int} {s : Nat} (h : ∀ t, t < s → hs.getD t false = hs'.getD t false ∧ ls.getD t 0 = ls'.getD t 0) : ∀ (d i : Nat) (q : Int × Int), nwIn hs ls s d i q = nwIn hs' ls' s d i q
  | 0, _, _ => rfl
  | d + 1, i, q => by rw [nwIn, nwIn, nwStep_congr h]; exact nwIn_congr h d _ _
theorem getD_set_self {α : Type} (l : List α) (i : Nat) (x z : α) (h : i < l.length) : (l.set i x).getD i z = x := by
  rw [List.getD_eq_getElem?_getD, List.getElem?_set_self h]; rfl
theorem getD_set_ne {α : Type} (l : List α) (i j : Nat) (x z : α) (h : i ≠ j) : (l.set i x).getD j z = l.getD j z := by
  rw [List.getD_eq_getElem?_getD, List.getElem?_set_ne h, List.getD_eq_getElem?_getD]
/-- what the lists hold at a set -/
def LongOk (H : Nat → Bool) (n : Nat) (hs : List Bool) (ls : List Int) (t : Nat) : Prop := hs.getD t false = H t ∧ ls.getD t 0 = if H t = true then 0 else nwEnd (nwIn hs ls t n 0 (0, 0))
theorem LongOk.congr {H : Nat → Bool} {n : Nat} {hs hs' : List Bool} {ls ls' : List Int} {t : Nat} (h : LongOk H n hs ls t) (hc : ∀ u, u ≤ t → hs'.getD u false = hs.getD u false ∧ ls'.getD u 0 = ls.getD u 0) : LongOk H n hs' ls' t := by
  obtain ⟨h1, h2⟩ := h
  obtain ⟨c1, c2⟩ := hc t (Nat.le_refl _)
  refine ⟨c1.trans h1, ?_⟩
  rw [c2, h2, nwIn_congr (hs := hs') (hs' := hs) (ls := ls') (ls' := ls) (fun u hu => hc u (by omega))]
theorem nwG_spec (H : Nat → Bool) (n N : Nat) : ∀ (d s : Nat) (hs : List Bool) (ls : List Int), s + d = N → hs.length = N → ls.length = N → (∀ t, s ≤ t → ls.getD t 0 = 0) → (∀ t, t < s → LongOk H n hs ls t) →
    (nwG H n d s hs ls).1.length = N ∧ (nwG H n d s hs ls).2.length = N ∧ ∀ t, t < N → LongOk H n (nwG H n d s hs ls).1 (nwG H n d s hs ls).2 t := by
  intro d
  induction d with
  | zero =>
    intro s hs ls hd h1 h2 h3 h4
    exact ⟨h1, h2, fun t ht => h4 t (by omega)⟩
  | succ d ih =>
    intro s hs ls hd h1 h2 h3 h4
    rw [nwG]
    by_cases hH : H s = true
    · rw [if_pos hH]
      refine ih (s + 1) _ _ (by omega) (by rw [List.length_set]; exact h1) h2 (fun t ht => h3 t (by omega)) (fun t ht => ?_)
      by_cases e : t = s
      · subst e
        refine ⟨by rw [getD_set_self _ _ _ _ (by omega), hH], ?_⟩
        rw [h3 t (Nat.le_refl _), if_pos hH]
      · exact (h4 t (by omega)).congr (fun u hu => ⟨getD_set_ne _ _ _ _ _ (by omega), rfl⟩)
    · rw [if_neg hH]
      have hH' : H s = false := by simpa using hH
      refine ih (s + 1) _ _ (by omega) (by rw [List.length_set]; exact h1) (by rw [List.length_set]; exact h2) (fun t ht => ?_) (fun t ht => ?_)
      · rw [getD_set_ne _ _ _ _ _ (by omega)]; exact h3 t (by omega)
      · by_cases e : t = s
        · subst e
          refine ⟨by rw [getD_set_self _ _ _ _ (by omega), hH'], ?_⟩
          rw [getD_set_self _ _ _ _ (by omega), if_neg hH]
          exact congrArg nwEnd (nwIn_congr (fun u hu => ⟨rfl, by rw [getD_set_ne _ _ _ _ _ (by omega)]⟩) _ _ _)
        · exact (h4 t (by omega)).congr (fun u hu => ⟨getD_set_ne _ _ _ _ _ (by omega), getD_set_ne _ _ _ _ _ (by omega)⟩)
/-! Better or not. -/
theorem better_iff (o b : Bool × Int × Int) : betterB o b = true ↔ (o.1 = true ∧ (b.1 = false ∨ o.2.2 < b.2.2)) ∨ (o.1 = false ∧ b.1 = false ∧ o.2.2 > b.2.2) := by
  obtain ⟨ow, oa, om⟩ := o
  obtain ⟨bw, ba, bm⟩ := b
  cases ow <;> cases bw <;> simp [betterB]
theorem better_irr (o : Bool × Int × Int) : betterB o o = false := by
  rw [Bool.eq_false_iff]
  intro h
  rw [better_iff] at h
  rcases h with ⟨h1, h2 | h2⟩ | ⟨h1, h2, h3⟩
  · rw [h1] at h2; cases h2
  · omega
  · omega
theorem better_trans {x o p : Bool × Int × Int} (h1 : betterB x p = false) (h2 : betterB o p = true) : betterB x o = false := by
  rw [Bool.eq_false_iff] at h1 ⊢
  intro h3
  apply h1
  rw [better_iff] at h2 h3 ⊢
  obtain ⟨xw, xa, xm⟩ := x
  obtain ⟨ow, oa, om⟩ := o
  obtain ⟨pw, pa, pm⟩ := p
  cases xw <;> cases ow <;> cases pw <;> simp_all <;> omega
theorem better_same {x o p : Bool × Int × Int} (h1 : betterB x p = false) (h2 : betterB o p = true) (hs : x.1 = o.1 ∧ x.2.2 = o.2.2) : False := by
  have : betterB x p = betterB o p := by unfold betterB; rw [hs.1, hs.2]
  rw [this, h2] at h1; cases h1
/-! Best play, the values of all takes at hand. -/
def bestP (tk : Nat → Bool × Int × Int) (s : Nat) : Nat → Nat → Option (Bool × Int × Int) → Option (Bool × Int × Int)
  | 0, _, b => b
  | d + 1, i, b => if s / 2 ^ i % 2 = 0 then bestP tk s d (i + 1) b else bestP tk s d (i + 1) (some (pickO b (tk i)))
theorem bestGo_ev {f : Nat → Nat → Option (Bool × Int × Int)} {tk : Nat → Bool × Int × Int} {s m : Nat} (h : ∀ i, i < m → ¬ s / 2 ^ i % 2 = 0 → Ev (fun k => f k i) (tk i)) : ∀ d i b, i + d = m → Ev (fun k => bestGo (f k) s d i b) (bestP tk s d i b)
  | 0, _, _, _ => Ev.now _
  | d + 1, i, b, hd => by
    simp only [bestGo, bestP]
    by_cases hb : s / 2 ^ i % 2 = 0
    · simp only [hb, if_true]; exact bestGo_ev h d _ _ (by omega)
    · simp only [hb, if_false]; exact Ev.bind (h i (by omega) hb) (bestGo_ev h d _ _ (by omega))
def tkv (H : Nat → Bool) (L : Nat → Int) (s i : Nat) : Bool × Int × Int := if H (s - 2 ^ i) = true then (true, (i : Int), 1) else (decide (L (s - 2 ^ i) < 0), (i : Int), if L (s - 2 ^ i) < 0 then 1 - L (s - 2 ^ i) else L (s - 2 ^ i) + 1)
def Same (x : Bool × Int × Int) (w : Bool) (m : Int) : Prop := x.1 = w ∧ x.2.2 = m
def BInv (tk : Nat → Bool × Int × Int) (s i : Nat) (b : Option (Bool × Int × Int)) (q : Int × Int) : Prop :=
  (0 ≤ q.1 ∧ q.1 ≤ s ∧ 0 ≤ q.2 ∧ q.2 ≤ s) ∧ match b with
  | none => q.1 = 0 ∧ q.2 = 0 ∧ ∀ j, j < i → s / 2 ^ j % 2 = 0
  | some p => 1 ≤ p.2.2 ∧ p.2.2 ≤ s ∧ (p.1 = true → q.1 = p.2.2) ∧ (p.1 = false → q.1 = 0 ∧ q.2 = p.2.2) ∧ ∃ j, j < i ∧ ¬ s / 2 ^ j % 2 = 0 ∧ tk j = p ∧ (∀ j', j' < i → ¬ s / 2 ^ j' % 2 = 0 → betterB (tk j') p = false) ∧ ∀ j', j' < j → ¬ s / 2 ^ j' % 2 = 0 → ¬ Same (tk j') p.1 p.2.2
/-- one take more -/
def qStep (o : Bool × Int × Int) (q : Int × Int) : Int × Int := if o.1 = true then (if q.1 = 0 ∨ o.2.2 < q.1 then (o.2.2, q.2) else q) else (q.1, if q.2 > o.2.2 then q.2 else o.2.2)
theorem BInv.step {tk : Nat → Bool × Int × Int} {s i : Nat} {b : Option (Bool × Int × Int)} {q : Int × Int} (h : BInv tk s i b q) (hb : ¬ s / 2 ^ i % 2 = 0) (h1 : 1 ≤ (tk i).2.2) (h2 : (tk i).2.2 ≤ s) : BInv tk s (i + 1) (some (pickO b (tk i))) (qStep (tk i) q) := by
  obtain ⟨⟨b1, b2, b3, b4⟩, h⟩ := h
  have hbd : 0 ≤ (qStep (tk i) q).1 ∧ (qStep (tk i) q).1 ≤ s ∧ 0 ≤ (qStep (tk i) q).2 ∧ (qStep (tk i) q).2 ≤ s := by
    unfold qStep
    split
    · split
      · exact ⟨by simp only; omega, by simp only; omega, b3, b4⟩
      · exact ⟨b1, b2, b3, b4⟩
    · refine ⟨b1, b2, ?_, ?_⟩
      · simp only; split <;> omega
      · simp only; split <;> omega
  refine ⟨hbd, ?_⟩
  cases b with
  | none =>
    obtain ⟨z1, z2, z3⟩ := h
    simp only [pickO]
    refine ⟨h1, h2, fun e => ?_, fun e => ?_, i, by omega, hb, rfl, fun j' hj' hb' => ?_, fun j' hj' hb' => absurd (z3 j' hj') hb'⟩
    · unfold qStep; rw [if_pos e, if_pos (Or.inl z1)]
    · unfold qStep; rw [if_neg (by simp [e])]
      refine ⟨z1, ?_⟩
      simp only
      rw [if_neg (by omega)]
    · by_cases e : j' = i
      · subst e; exact better_irr _
      · exact absurd (z3 j' (by omega)) hb'
  | some p =>
    obtain ⟨m1, m2, w1, w2, j, hj, hbj, htk, hbt, hfs⟩ := h
    simp only [pickO]
    by_cases hbet : betterB (tk i) p = true
    · rw [if_pos hbet]
      have hbi := (better_iff _ _).1 hbet
      refine ⟨h1, h2, fun e => ?_, fun e => ?_, i, by omega, hb, rfl, fun j' hj' hb' => ?_, fun j' hj' hb' hs => ?_⟩
      · unfold qStep
        rw [if_pos e, if_pos]
        rcases hbi with ⟨_, h3 | h3⟩ | ⟨h3, _, _⟩
        · exact Or.inl (w2 h3).1
        · cases hp : p.1 with
          | true => right; rw [w1 hp]; exact h3
          | false => exact Or.inl (w2 hp).1
        · rw [e] at h3; cases h3
      · rcases hbi with ⟨h3, _⟩ | ⟨_, h3, h4⟩
        · rw [e] at h3; cases h3
        · unfold qStep; rw [if_neg (by simp [e])]
          obtain ⟨x1, x2⟩ := w2 h3
          refine ⟨x1, ?_⟩
          simp only
          rw [if_neg (by omega)]
      · by_cases e : j' = i
        · subst e; exact better_irr _
        · exact better_trans (hbt j' (by omega) hb') hbet
      · exact better_same (hbt j' hj' hb') hbet hs
    · rw [if_neg hbet]
      have hbet' : betterB (tk i) p = false := by simpa using hbet
      have hnb := fun h => hbet ((better_iff _ _).2 h)
      refine ⟨m1, m2, fun e => ?_, fun e => ?_, j, by omega, hbj, htk, fun j' hj' hb' => ?_, hfs⟩
      · have hq := w1 e
        unfold qStep
        cases ho : (tk i).1 with
        | true =>
          rw [if_pos rfl, if_neg]
          · exact hq
          · rintro (h3 | h3)
            · omega
            · exact hnb (Or.inl ⟨ho, Or.inr (by omega)⟩)
        | false => rw [if_neg (by simp)]; exact hq
      · obtain ⟨x1, x2⟩ := w2 e
        cases ho : (tk i).1 with
        | true => exact absurd (Or.inl ⟨ho, Or.inl e⟩) hnb
        | false =>
          unfold qStep
          rw [ho, if_neg (by simp)]
          refine ⟨x1, ?_⟩
          simp only
          by_cases h3 : q.2 > (tk i).2.2
          · rw [if_pos h3]; exact x2
          · rw [if_neg h3]
            by_cases h4 : (tk i).2.2 > p.2.2
            · exact absurd (Or.inr ⟨ho, e, h4⟩) hnb
            · omega
      · by_cases e : j' = i
        · subst e; exact hbet'
        · exact hbt j' (by omega) hb'
theorem BInv.skip {tk : Nat → Bool × Int × Int} {s i : Nat} {b : Option (Bool × Int × Int)} {q : Int × Int} (h : BInv tk s i b q) (hb : s / 2 ^ i % 2 = 0) : BInv tk s (i + 1) b q := by
  obtain ⟨h0, h⟩ := h
  refine ⟨h0, ?_⟩
  cases b with
  | none =>
    refine ⟨h.1, h.2.1, fun j hj => ?_⟩
    by_cases e : j = i
    · subst e; exact hb
    · exact h.2.2 j (by omega)
  | some p =>
    obtain ⟨m1, m2, w1, w2, j, hj, hbj, htk, hbt, hfs⟩ := h
    refine ⟨m1, m2, w1, w2, j, by omega, hbj, htk, fun j' hj' hb' => ?_, hfs⟩
    by_cases e : j' = i
    · subst e; exact absurd hb hb'
    · exact hbt j' (by omega) hb'
theorem step_eq (hm : Bool) (v q1 q2 i s : Int) (hz : hm = false → v ≠ 0) (hbd : -s ≤ v ∧ v ≤ s) (hs4 : s ≤ 1000000) (hq : 0 ≤ q1) :
    (if hm = true then ((1 : Int), q2) else if v < 0 ∧ (q1 = 0 ∨ wrap64 (1 - v) < q1) then (wrap64 (1 - v), q2) else if 0 < v then (q1, if q2 > wrap64 (1 + v) then q2 else wrap64 (1 + v)) else (q1, q2)) = qStep (if hm = true then (true, i, 1) else (decide (v < 0), i, if v < 0 then 1 - v else v + 1)) (q1, q2) := by
  have e1 : wrap64 (1 - v) = 1 - v := wrap_in (by omega) (by omega)
  have e2 : wrap64 (1 + v) = v + 1 := by rw [wrap_in (by omega) (by omega)]; omega
  rw [e1, e2]
  clear e1 e2
  unfold qStep
  cases hm with
  | true =>
    simp only [if_true]
    split
    · rfl
    · rename_i h; congr 1; omega
  | false =>
    have hz := hz rfl
    simp only [Bool.false_eq_true, if_false, decide_eq_true_eq]
    by_cases hv : v < 0
    · simp only [hv, if_true, true_and]
      split
      · rfl
      · rw [if_neg (by omega)]
    · simp only [hv, if_false, false_and]
      rw [if_pos (by omega)]
theorem nwStep_tk {H : Nat → Bool} {hs : List Bool} {ls : List Int} {s i : Nat} {q : Int × Int} (hb : ¬ s / 2 ^ i % 2 = 0) (hs1 : hs.getD (s - 2 ^ i) false = H (s - 2 ^ i)) (hz : H (s - 2 ^ i) = false → ls.getD (s - 2 ^ i) 0 ≠ 0) (hbd : -(s : Int) ≤ ls.getD (s - 2 ^ i) 0 ∧ ls.getD (s - 2 ^ i) 0 ≤ s) (hs4 : s ≤ 1000000) (hq : 0 ≤ q.1) : nwStep hs ls s i q = qStep (tkv H (fun t => ls.getD t 0) s i) q := by
  obtain ⟨q1, q2⟩ := q
  unfold nwStep
  rw [if_neg hb, hs1]
  exact step_eq _ _ _ _ _ (s : Int) hz hbd (by omega) hq
theorem nwIn_inv {H : Nat → Bool} {hs : List Bool} {ls : List Int} {s m : Nat} (hs4 : s ≤ 1000000) (hok : ∀ t, t < s → hs.getD t false = H t ∧ (H t = false → ls.getD t 0 ≠ 0) ∧ -(t : Int) ≤ ls.getD t 0 ∧ ls.getD t 0 ≤ t) : ∀ (d i : Nat) (b : Option (Bool × Int × Int)) (q : Int × Int), i + d = m → BInv (tkv H (fun t => ls.getD t 0) s) s i b q → BInv (tkv H (fun t => ls.getD t 0) s) s m (bestP (tkv H (fun t => ls.getD t 0) s) s d i b) (nwIn hs ls s d i q) := by
  intro d
  induction d with
  | zero => intro i b q hd h; obtain rfl : i = m := by omega
            exact h
  | succ d ih =>
    intro i b q hd h
    rw [bestP, nwIn]
    by_cases hb : s / 2 ^ i % 2 = 0
    · rw [if_pos hb]
      have e : nwStep hs ls s i q = q := by unfold nwStep; rw [if_pos hb]
      rw [e]
      exact ih _ _ _ (by omega) (h.skip hb)
    · rw [if_neg hb]
      have h1 := bit_le hb
      have h2 : 1 ≤ 2 ^ i := Nat.one_le_two_pow
      obtain ⟨o1, o2, o3, o4⟩ := hok (s - 2 ^ i) (by omega)
      rw [nwStep_tk hb o1 o2 ⟨by omega, by omega⟩ hs4 h.1.1]
      refine ih _ _ _ (by omega) (h.step hb ?_ ?_)
      · unfold tkv
        split
        · exact Int.le_refl _
        · simp only; split <;> omega
      · unfold tkv
        split
        · simp only; omega
        · simp only; split <;> omega
theorem gbGo_hit {hs : List Bool} {ls : List Int} {s j : Nat} {wt : Int} (hit : Nat → Prop) (hh : ∀ i, ¬ s / 2 ^ i % 2 = 0 → (hit i ↔ ((hs.getD (s - 2 ^ i) false = true ∧ wt = 1) ∨ (hs.getD (s - 2 ^ i) false = false ∧ ((1 < wt ∧ ls.getD (s - 2 ^ i) 0 = wrap64 (1 - wt)) ∨ (wt < 0 ∧ ls.getD (s - 2 ^ i) 0 = wrap64 (wrap64 (-wt) - 1))))))) (hbj : ¬ s / 2 ^ j % 2 = 0) (hj : hit j) (hn : ∀ j', j' < j → ¬ s / 2 ^ j' % 2 = 0 → ¬ hit j') : ∀ (d i : Nat), i ≤ j → j < i + d → gbGo hs ls s wt d i = (j : Int) := by
  intro d
  induction d with
  | zero => intro i h1 h2; omega
  | succ d ih =>
    intro i h1 h2
    rw [gbGo]
    by_cases e : i = j
    · subst e
      rw [if_neg hbj, if_pos ((hh i hbj).1 hj)]
    · by_cases hb : s / 2 ^ i % 2 = 0
      · rw [if_pos hb]; exact ih _ (by omega) (by omega)
      · rw [if_neg hb, if_neg (fun h => hn i (by omega) hb ((hh i hb).2 h))]
        exact ih _ (by omega) (by omega)
/-! The game of a ladder. -/
/-- what is known of a set: at home or not, how long it lasts, and which rung is taken -/
def SetOk (n : Nat) (l : List Int) (hs : List Bool) (ls : List Int) (s : Nat) : Prop :=
  hs.getD s false = homeB n (leftR l s) ∧ (-(s : Int) ≤ ls.getD s 0 ∧ ls.getD s 0 ≤ s) ∧ (homeB n (leftR l s) = false → ls.getD s 0 ≠ 0 ∧ ∃ j : Nat, j < l.length ∧ ¬ s / 2 ^ j % 2 = 0 ∧ gbF l.length hs ls s = (j : Int) ∧ Ev (fun k => bestF k (n : Int) l s) (decide (0 < ls.getD s 0), (j : Int), if ls.getD s 0 < 0 then -ls.getD s 0 else ls.getD s 0))
theorem val_flip (i v s : Int) (hz : v ≠ 0) (hbd : -s ≤ v ∧ v ≤ s) (hs : s ≤ 1000000) : (!decide (0 < v), i, wrap64 ((if v < 0 then -v else v) + 1)) = (decide (v < 0), i, if v < 0 then 1 - v else v + 1) := by
  by_cases hv : v < 0
  · rw [if_pos hv, if_pos hv, wrap_in (by omega) (by omega)]
    have : decide (0 < v) = false := decide_eq_false (by omega)
    rw [this, decide_eq_true hv]
    simp only [Bool.not_false, Prod.mk.injEq, true_and]
    omega
  · rw [if_neg hv, if_neg hv, wrap_in (by omega) (by omega)]
    have : decide (0 < v) = true := decide_eq_true (by omega)
    rw [this, decide_eq_false hv]
    simp
theorem hit_iff (hm : Bool) (v wt m : Int) (w : Bool) (hz : hm = false → v ≠ 0) (hw : wt = if w = true then m else -m) (hm1 : 1 ≤ m) (hbd : m ≤ 1000000) (i : Int) :
    Same (if hm = true then (true, i, 1) else (decide (v < 0), i, if v < 0 then 1 - v else v + 1)) w m ↔ ((hm = true ∧ wt = 1) ∨ (hm = false ∧ ((1 < wt ∧ v = wrap64 (1 - wt)) ∨ (wt < 0 ∧ v = wrap64 (wrap64 (-wt) - 1))))) := by
  have hwt : -1000000 ≤ wt ∧ wt ≤ 1000000 := by rw [hw]; split <;> exact ⟨by omega, by omega⟩
  have e1 : wrap64 (1 - wt) = 1 - wt := wrap_in (by omega) (by omega)
  have e3 : wrap64 (-wt) = -wt := wrap_in (by omega) (by omega)
  have e2 : wrap64 (wrap64 (-wt) - 1) = -wt - 1 := by rw [e3]; exact wrap_in (by omega) (by omega)
  rw [e1, e2]
  clear e1 e2 e3
  unfold Same
  cases hm with
  | true =>
    simp only [if_true, Bool.true_eq_false, false_and, or_false, true_and]
    cases w with
    | true => rw [if_pos rfl] at hw; simp only [true_and]; omega
    | false => rw [if_neg (by simp)] at hw; simp only [Bool.true_eq_false, false_and, false_iff]; omega
  | false =>
    have hz := hz rfl
    simp only [Bool.false_eq_true, if_false, false_and, false_or, true_and]
    cases w with
    | true =>
      rw [if_pos rfl] at hw
      rw [decide_eq_true_eq]
      by_cases hv : v < 0
      · rw [if_pos hv]; omega
      · rw [if_neg hv]; omega
    | false =>
      rw [if_neg (by simp)] at hw
      rw [decide_eq_false_iff_not]
      by_cases hv : v < 0
      · rw [if_pos hv]; omega
      · rw [if_neg hv]; omega
theorem tkv_ev {n : Nat} {l : List Int} {hs : List Bool} {ls : List Int} (hn : n ≤ 8) (hl : l.length ≤ 12) {s i : Nat} (hb : ¬ s / 2 ^ i % 2 = 0) (hs4 : s ≤ 1000000) (h : SetOk n l hs ls (s - 2 ^ i)) : Ev (fun k => takeX (bestF k (n : Int) l) k (n : Int) l s i) (tkv (fun t => homeB n (leftR l t)) (fun t => ls.getD t 0) s i) := by
  obtain ⟨_, hbd, h⟩ := h
  have hll := leftR_length l (s - 2 ^ i)
  unfold takeX tkv
  refine Ev.bind (isHomely_ev n _ hn (by omega)) ?_
  refine Ev.iteb (fun c => ?_) (fun c => ?_)
  · rw [if_pos c]; exact Ev.now _
  · rw [if_neg (by simp [c])]
    obtain ⟨hz, j, _, _, _, hev⟩ := h c
    refine Ev.bind hev ?_
    refine Ev.eq (Ev.now _) ?_
    exact val_flip _ _ ((s - 2 ^ i : Nat) : Int) hz hbd (by have := Nat.sub_le s (2 ^ i); omega)
theorem SetOk.of {n : Nat} {l : List Int} {hs : List Bool} {ls : List Int} (hn : n ≤ 8) (hl : l.length ≤ 12) {s : Nat} (hs2 : s < 2 ^ l.length) (hok : LongOk (fun t => homeB n (leftR l t)) l.length hs ls s) (ih : ∀ t, t < s → SetOk n l hs ls t) : SetOk n l hs ls s := by
  have hpow := pow_12 l.length hl
  have hs4 : s ≤ 1000000 := by omega
  obtain ⟨o1, o2⟩ := hok
  simp only at o1 o2
  refine ⟨o1, ?_⟩
  by_cases hH : homeB n (leftR l s) = true
  · rw [if_pos hH] at o2
    rw [o2]
    exact ⟨⟨by omega, by omega⟩, fun e => by rw [hH] at e; cases e⟩
  · rw [if_neg hH] at o2
    have hs0 : s ≠ 0 := by
      intro e
      rw [e, leftR_zero, homeB_nil] at hH
      exact hH rfl
    have inv := nwIn_inv (H := fun t => homeB n (leftR l t)) (hs := hs) (ls := ls) (s := s) (m := l.length) hs4 (fun t ht => ⟨(ih t ht).1, fun e => ((ih t ht).2.2 e).1, (ih t ht).2.1⟩) l.length 0 none (0, 0) (Nat.zero_add _) ⟨⟨by simp, by simp, by simp, by simp⟩, rfl, rfl, fun j hj => by omega⟩
    have hev := bestGo_ev (f := fun k i => takeX (bestF k (n : Int) l) k (n : Int) l s i) (tk := tkv (fun t => homeB n (leftR l t)) (fun t => ls.getD t 0) s) (s := s) (m := l.length) (fun i hi hb => tkv_ev hn hl hb hs4 (ih _ (by have := bit_le hb; have : 1 ≤ 2 ^ i := Nat.one_le_two_pow; omega))) l.length 0 none (Nat.zero_add _)
    generalize bestP (tkv (fun t => homeB n (leftR l t)) (fun t => ls.getD t 0) s) s l.length 0 none = b at inv hev
    generalize nwIn hs ls s l.length 0 (0, 0) = q at inv o2
    obtain ⟨⟨b1, b2, b3, b4⟩, inv⟩ := inv
    cases b with
    | none =>
      obtain ⟨_, _, h3⟩ := inv
      obtain ⟨j, hj, hb⟩ := bit_ex l.length s hs2 hs0
      exact absurd (h3 j hj) hb
    | some p =>
      obtain ⟨m1, m2, w1, w2, j, hj, hbj, htk, hbt, hfs⟩ := inv
      have hlv : ls.getD s 0 = if p.1 = true then p.2.2 else -p.2.2 := by
        rw [o2]
        unfold nwEnd
        cases hp : p.1 with
        | true => rw [if_pos rfl, if_neg (by have := w1 hp; omega)]; exact w1 hp
        | false =>
          obtain ⟨x1, x2⟩ := w2 hp
          rw [if_pos x1, if_neg (by simp), wrap_in (by omega) (by omega), x2]
      have hat : p.2.1 = (j : Int) := by
        rw [← htk]; unfold tkv; split <;> rfl
      have hne : ls.getD s 0 ≠ 0 := by rw [hlv]; split <;> omega
      refine ⟨by rw [hlv]; split <;> exact ⟨by omega, by omega⟩, fun _ => ⟨hne, j, hj, hbj, ?_, ?_⟩⟩
      · unfold gbF
        refine gbGo_hit (fun i => Same (tkv (fun t => homeB n (leftR l t)) (fun t => ls.getD t 0) s i) p.1 p.2.2) (fun i hb => ?_) hbj (by rw [htk]; exact ⟨rfl, rfl⟩) hfs _ _ (Nat.zero_le _) (by omega)
        have hlt : s - 2 ^ i < s := by have := bit_le hb; have : 1 ≤ 2 ^ i := Nat.one_le_two_pow; omega
        obtain ⟨i1, i2, i3⟩ := ih _ hlt
        rw [i1]
        exact hit_iff _ _ _ _ _ (fun e => (i3 e).1) hlv m1 (by omega) _
      · refine Ev.succ ?_
        simp only [bestF]
        refine Ev.bind hev ?_
        refine Ev.eq (Ev.now _) ?_
        obtain ⟨pw, pa, pm⟩ := p
        simp only [Option.getD_some] at *
        subst hat
        rw [hlv]
        cases pw with
        | true =>
          have h3 : ¬ pm < 0 := by omega
          have h4 : (0 < pm) := by omega
          simp [h3, h4]
        | false =>
          have h3 : -pm < 0 := by omega
          have h4 : ¬ (0 < -pm) := by omega
          simp [h3, h4]
          omega
theorem setOk_all {n : Nat} {l : List Int} {hs : List Bool} {ls : List Int} (hn : n ≤ 8) (hl : l.length ≤ 12) (hok : ∀ t, t < 2 ^ l.length → LongOk (fun t => homeB n (leftR l t)) l.length hs ls t) : ∀ s, s < 2 ^ l.length → SetOk n l hs ls s := by
  intro s
  induction s using Nat.strongRecOn with
  | ind s ih => exact fun h => SetOk.of hn hl h (hok s h) (fun t ht => ih t ht (by omega))
/-- the reference's lists of a ladder -/
theorem gaNew_ev {n : Nat} {l : List Int} (hn : n ≤ 8) (hl : l.length ≤ 12) : ∃ hs ls, Ev (fun k => gaNewF k (n : Int) l) (hs, ls) ∧ ∀ s, s < 2 ^ l.length → SetOk n l hs ls s := by
  have h1 := nwGo_ev (hm := fun k s => nwHome k (n : Int) l s) (H := fun t => homeB n (leftR l t)) l.length (fun s => by
    unfold nwHome
    have hll := leftR_length l s
    exact Ev.bind (gaLeft_ev (n : Int) l (by omega) s) (gaHome_ev n _ hn (by omega))) (2 ^ l.length) 0 (List.replicate (2 ^ l.length) false) (List.replicate (2 ^ l.length) 0)
  have h2 := nwG_spec (fun t => homeB n (leftR l t)) l.length (2 ^ l.length) (2 ^ l.length) 0 (List.replicate (2 ^ l.length) false) (List.replicate (2 ^ l.length) 0) (Nat.zero_add _) List.length_replicate List.length_replicate (fun t _ => by rw [List.getD_eq_getElem?_getD, List.getElem?_replicate]; split <;> rfl) (fun t ht => by omega)
  refine ⟨_, _, ?_, setOk_all hn hl h2.2.2⟩
  unfold gaNewF
  simp only [hl, if_true]
  exact h1
theorem toIntS_l0 (l : List Int) (hn : l.length ≤ 140737488351232) (d : Nat) : ∀ (k j : Nat), j ≤ l.length → l.length - j = d → d < k →
    laws_toIntS.l0 k l (l.take j ++ List.replicate (l.length - j) 0) (j : Int) = some l := by
  induction d with
  | zero =>
    intro k j h1 hd hk
    obtain ⟨k, rfl⟩ : ∃ m, k = m + 1 := ⟨k - 1, by omega⟩
    have : j = l.length := by omega
    subst this
    rw [laws_toIntS.l0, if_neg (by omega)]; simp
  | succ d ih =>
    intro k j h1 hd hk
    obtain ⟨k, rfl⟩ : ∃ m, k = m + 1 := ⟨k - 1, by omega⟩
    have hj : j < l.length := by omega
    rw [laws_toIntS.l0, if_pos (by omega), if_pos (by omega), if_pos (by simp; omega), wrap_succ (n := l.length) (by omega) (by omega) (by omega)]
    have e : (j : Int).toNat = j := rfl
    have e2 : ((j : Int) + 1) = ((j + 1 : Nat) : Int) := rfl
    unfold rd
    rw [e, copy_step l j hj, e2]
    exact ih k (j + 1) (by omega) (by omega) (by omega)
theorem toIntS_f (l : List Int) (hn : l.length ≤ 17592186043904) (k : Nat) (hk : l.length < k) : laws_toIntS.f k l = some l := by
  unfold laws_toIntS.f
  rw [if_pos (by omega), if_pos (by simp; omega)]
  have := toIntS_l0 l (by omega) l.length k 0 (by omega) (by omega) hk
  simpa using this
theorem toIntS_ev (l : List Int) (hn : l.length ≤ 17592186043904) : Ev (fun k => laws_toIntS.f k l) l :=
  ⟨l.length + 1, fun k hk => toIntS_f l hn k (by omega)⟩
theorem toLadder_ev (a : Int) (l : List Int) (hn : l.length ≤ 17592186043904) : Ev (fun k => laws_toLadder.f k a l) (a, l) := by
  unfold laws_toLadder.f
  exact Ev.bind (toIntS_ev l hn) (Ev.now _)
theorem eqIntS_l0 (a b : List Int) (he : a.length = b.length) (hn : a.length ≤ 9223372036854775807) (d : Nat) : ∀ (k j : Nat), j ≤ a.length → a.length - j = d → d < k →
    laws_eqIntS.l0 k a b (j : Int) = some (decide (a.drop j = b.drop j)) := by
  induction d with
  | zero =>
    intro k j h1 hd hk
    obtain ⟨k, rfl⟩ : ∃ m, k = m + 1 := ⟨k - 1, by omega⟩
    have h2 : a.drop j = [] := List.drop_eq_nil_of_le (by omega)
    have h3 : b.drop j = [] := List.drop_eq_nil_of_le (by omega)
    rw [laws_eqIntS.l0, if_neg (by omega), h2, h3]; simp only [decide_true]
  | succ d ih =>
    intro k j h1 hd hk
    obtain ⟨k, rfl⟩ : ∃ m, k = m + 1 := ⟨k - 1, by omega⟩
    have hj : j < a.length := by omega
    have hj2 : j < b.length := by omega
    rw [laws_eqIntS.l0, if_pos (by omega), if_pos (by omega), if_pos (by omega), rd_nat a j hj, rd_nat b j hj2, wrap_succ (n := a.length) (by omega) (by omega) hn, List.drop_eq_getElem_cons hj, List.drop_eq_getElem_cons hj2]
    by_cases h : a[j] = b[j]
    · rw [if_pos h]
      have e2 : ((j : Int) + 1) = ((j + 1 : Nat) : Int) := rfl
      rw [e2, ih k (j + 1) (by omega) (by omega) (by omega)]
      refine congrArg some (decide_eq_decide.2 ?_)
      rw [List.cons.injEq]
      exact ⟨fun e => ⟨h, e⟩, fun e => e.2⟩
    · rw [if_neg h]
      refine congrArg some (decide_eq_false ?_).symm
      rw [List.cons.injEq]
      exact fun e => h e.1
theorem eqIntS_ev (a b : List Int) (hn : a.length ≤ 9223372036854775807) : Ev (fun k => laws_eqIntS.f k a b) (decide (a = b)) := by
  refine ⟨a.length + 1, fun k hk => ?_⟩
  show laws_eqIntS.f k a b = _
  unfold laws_eqIntS.f
  by_cases h : (a.length : Int) = (b.length : Int)
  · rw [if_pos h]
    have := eqIntS_l0 a b (by omega) hn a.length k 0 (by omega) (by omega) (by omega)
    simpa using this
  · rw [if_neg h]
    have : a ≠ b := fun e => h (by rw [e])
    simp [this]
theorem eqIntS_refl (l : List Int) (hn : l.length ≤ 9223372036854775807) : Ev (fun k => laws_eqIntS.f k l l) true := Ev.eq (eqIntS_ev l l hn) (by simp)
theorem eqLadder_ev (a : Int) (l : List Int) (b : Int) (m : List Int) (hn : l.length ≤ 9223372036854775807) : Ev (fun k => laws_eqLadder.f k a l b m) (decide (a = b ∧ l = m)) := by
  unfold laws_eqLadder.f
  refine Ev.ite (fun h => ?_) (fun h => ?_)
  · refine Ev.bind (eqIntS_ev l m hn) ?_
    refine Ev.iteb (fun h2 => ?_) (fun h2 => ?_)
    · refine Ev.eq (Ev.now _) ?_; simp at h2; simp [h, h2]
    · refine Ev.eq (Ev.now _) ?_; simp at h2; simp [h2]
  · refine Ev.eq (Ev.now _) ?_; simp [h]
theorem eqLadder_refl (a : Int) (l : List Int) (hn : l.length ≤ 9223372036854775807) : Ev (fun k => laws_eqLadder.f k a l a l) true := Ev.eq (eqLadder_ev a l a l hn) (by simp)
theorem szLadder_f (a : Int) (l : List Int) (hn : l.length ≤ 9223372036854775807) : laws_szLadder.f a l 1048576 = some (if l.length ≤ 1048576 then 1048576 - (l.length : Int) else -1) := by
  unfold laws_szLadder.f laws_szIntS.f
  have e : wrap64 (1048576 - (l.length : Int)) = 1048576 - (l.length : Int) := wrap_in (by omega) (by omega)
  rw [e]
  by_cases h : l.length ≤ 1048576
  · rw [if_neg (by omega), if_pos h, Option.bind_some, if_neg (by omega)]
  · rw [if_pos (by omega), if_neg h]; rfl
/-- the marks from m on, n of them -/
def marks (m : Int) : Nat → List Int
  | 0 => []
  | n + 1 => m :: marks (wrap64 (m + 1)) n
def markEnd (m : Int) : Nat → Int
  | 0 => m
  | n + 1 => markEnd (wrap64 (m + 1)) n
theorem marks_length (n : Nat) : ∀ m, (marks m n).length = n := by
  induction n with
  | zero => intro m; rfl
  | succ n ih => intro m; simp [marks, ih]
theorem markIntS_l0 (n : Nat) : ∀ (k j : Nat) (p q : List Int) (m : Int), p.length = j → q.length = n → j + n ≤ 9223372036854775807 → n < k →
    laws_markIntS.l0 k (p ++ q) m (j : Int) = some (markEnd m n, p ++ marks m n) := by
  induction n with
  | zero =>
    intro k j p q m hp hq hb hk
    obtain ⟨k, rfl⟩ : ∃ m, k = m + 1 := ⟨k - 1, by omega⟩
    have : q = [] := List.eq_nil_of_length_eq_zero hq
    subst this
    rw [laws_markIntS.l0, if_neg (by simp; omega)]; simp [marks, markEnd]
  | succ n ih =>
    intro k j p q m hp hq hb hk
    obtain ⟨k, rfl⟩ : ∃ m, k = m + 1 := ⟨k - 1, by omega⟩
    cases q with
    | nil => simp at hq
    | cons x q =>
      rw [laws_markIntS.l0, if_pos (by simp; omega), if_pos (by omega), wrap_succ (i := (j : Int)) (n := j + n + 1) (by omega) (by omega) (by omega)]
      have e : (j : Int).toNat = j := rfl
      have e2 : ((j : Int) + 1) = ((j + 1 : Nat) : Int) := rfl
      have e3 : (p ++ x :: q).set j m = (p ++ [m]) ++ q := by
        rw [List.set_append_right (h := by omega), hp, Nat.sub_self, List.set_cons_zero, List.append_assoc]; rfl
      rw [e, e2, e3, ih k (j + 1) (p ++ [m]) q (wrap64 (m + 1)) (by simp [hp]) (by simpa using hq) (by omega) (by omega)]
      simp [marks, markEnd]
theorem markIntS_ev (l : List Int) (m : Int) (hn : l.length ≤ 9223372036854775807) : Ev (fun k => laws_markIntS.f k l m) (markEnd m l.length, marks m l.length) := by
  refine ⟨l.length + 1, fun k hk => ?_⟩
  show laws_markIntS.f k l m = _
  unfold laws_markIntS.f
  have := markIntS_l0 l.length k 0 [] l m rfl rfl (by omega) (by omega)
  simpa using this
theorem heldIntS_l0 (n : Nat) : ∀ (k j : Nat) (p : List Int) (m : Int), p.length = j → j + n ≤ 9223372036854775807 → n < k →
    laws_heldIntS.l0 k (p ++ marks m n) m (j : Int) = some (markEnd m n) := by
  induction n with
  | zero =>
    intro k j p m hp hb hk
    obtain ⟨k, rfl⟩ : ∃ m, k = m + 1 := ⟨k - 1, by omega⟩
    rw [laws_heldIntS.l0, if_neg (by simp [marks]; omega)]; rfl
  | succ n ih =>
    intro k j p m hp hb hk
    obtain ⟨k, rfl⟩ : ∃ m, k = m + 1 := ⟨k - 1, by omega⟩
    have hl := marks_length n (wrap64 (m + 1))
    rw [laws_heldIntS.l0, marks]
    have hr : rd (p ++ m :: marks (wrap64 (m + 1)) n) (j : Int) = m := by
      rw [rd_nat _ _ (by simp; omega), List.getElem_append_right (by omega)]; simp [hp]
    rw [if_pos (by simp; omega), if_pos (by omega), if_pos hr, wrap_succ (i := (j : Int)) (n := j + n + 1) (by omega) (by omega) (by omega)]
    have e2 : ((j : Int) + 1) = ((j + 1 : Nat) : Int) := rfl
    have e3 : p ++ m :: marks (wrap64 (m + 1)) n = (p ++ [m]) ++ marks (wrap64 (m + 1)) n := by simp
    rw [e2, e3, ih k (j + 1) (p ++ [m]) (wrap64 (m + 1)) (by simp [hp]) (by omega) (by omega)]
    rfl
theorem heldIntS_ev (m : Int) (n : Nat) (hn : n ≤ 9223372036854775807) : Ev (fun k => laws_heldIntS.f k (marks m n) m) (markEnd m n) := by
  refine ⟨n + 1, fun k hk => ?_⟩
  show laws_heldIntS.f k (marks m n) m = _
  unfold laws_heldIntS.f
  have := heldIntS_l0 n k 0 [] m rfl (by omega) (by omega)
  simpa using this
theorem markEnd_eq (n : Nat) : ∀ m : Int, 0 ≤ m → m + n ≤ 9223372036854775807 → markEnd m n = m + n := by
  induction n with
  | zero => intro m h0 h1; simp [markEnd]
  | succ n ih =>
    intro m h0 h1
    simp only [markEnd]
    rw [wrap_in (by omega) (by omega), ih (m + 1) (by omega) (by omega)]
    omega
theorem markLadder_ev (a : Int) (l : List Int) (m : Int) (hn : l.length ≤ 9223372036854775807) : Ev (fun k => laws_markLadder.f k a l m) (markEnd m l.length, marks m l.length) := by
  unfold laws_markLadder.f
  exact Ev.bind (markIntS_ev l m hn) (Ev.now _)
theorem heldLadder_ev (a : Int) (m : Int) (n : Nat) (h0 : 0 ≤ m) (hn : m + n ≤ 9223372036854775807) : Ev (fun k => laws_heldLadder.f k a (marks m n) m) (markEnd m n) := by
  unfold laws_heldLadder.f
  refine Ev.bind (heldIntS_ev m n (by omega)) ?_
  have := markEnd_eq n m h0 hn
  have h : ¬ markEnd m n < 0 := by omega
  simp only [h, if_false]
  exact Ev.now _
theorem ggGo_len (hs : List Bool) (ls : List Int) (M : Nat) : ∀ d i, (ggGo hs ls M d i).length ≤ d
  | 0, _ => Nat.le_refl _
  | d + 1, i => by
    have := ggGo_len hs ls M d (i + 1)
    rw [ggGo]
    split
    · rw [List.length_cons]; omega
    · omega
theorem good_eq (hm : Bool) (v i x y : Int) (r : List Int) : (if (if hm = true then (true, i, x) else (decide (v < 0), i, y)).1 = true then i :: r else r) = if hm = true ∨ v < 0 then i :: r else r := by
  cases hm with
  | true => simp
  | false => by_cases hv : v < 0 <;> simp [hv]
theorem goodGo_ev {n : Nat} {l : List Int} {hs : List Bool} {ls : List Int} (hn : n ≤ 8) (hl : l.length ≤ 12) (hok : ∀ s, s < 2 ^ l.length → SetOk n l hs ls s) : ∀ d i, i + d = l.length → Ev (fun k => goodGo (takeX (bestF k (n : Int) l) k (n : Int) l (2 ^ l.length - 1)) d i) (ggGo hs ls (2 ^ l.length - 1) d i)
  | 0, _, _ => Ev.now _
  | d + 1, i, hd => by
    have hpow := pow_12 l.length hl
    have hpos : 1 ≤ 2 ^ l.length := Nat.one_le_two_pow
    have hb := full_bit l.length i (by omega)
    have h1 := bit_le hb
    have h2 : 1 ≤ 2 ^ i := Nat.one_le_two_pow
    have ok := hok (2 ^ l.length - 1 - 2 ^ i) (by omega)
    simp only [goodGo, ggGo]
    refine Ev.bind (tkv_ev hn hl hb (by omega) ok) ?_
    refine Ev.bind (goodGo_ev hn hl hok d (i + 1) (by omega)) ?_
    refine Ev.eq (Ev.now _) ?_
    obtain ⟨o1, _, _⟩ := ok
    rw [o1]
    exact good_eq _ _ _ _ _ _
theorem GoodTakes_both (a : Int) (l : List Int) : ∃ r, Ev (fun k => spec_GoodTakes.f k a l) r ∧ Ev (fun k => impl_GoodTakes.f k a l) r ∧ r.1.length ≤ 13 := by
  cases h : takingB a l with
  | false =>
    refine ⟨([], false), ?_, ?_, by simp⟩
    · unfold spec_GoodTakes.f
      refine Ev.bind (gaTaking_ev a l) ?_
      simp only [h, Bool.false_eq_true, if_false]; exact Ev.now _
    · unfold impl_GoodTakes.f
      refine Ev.bind (isTaking_ev a l) ?_
      simp only [h, Bool.false_eq_true, if_false]; exact Ev.now _
  | true =>
    obtain ⟨n, rfl, _, hn, hl, hhome, _⟩ := takingB_in h
    have hpos : 1 ≤ 2 ^ l.length := Nat.one_le_two_pow
    have hpow := pow_12 l.length hl
    obtain ⟨hs, ls, hev, hok⟩ := gaNew_ev (l := l) hn hl
    have hM : 2 ^ l.length - 1 < 2 ^ l.length := by omega
    have hMH : homeB n (leftR l (2 ^ l.length - 1)) = false := by rw [leftR_full]; exact hhome
    refine ⟨(ggGo hs ls (2 ^ l.length - 1) l.length 0, true), ?_, ?_, ?_⟩
    · unfold spec_GoodTakes.f
      refine Ev.bind (gaTaking_ev (n : Int) l) ?_
      simp only [h, if_true]
      refine Ev.bind hev ?_
      exact Ev.now _
    · unfold impl_GoodTakes.f
      refine Ev.bind (isTaking_ev (n : Int) l) ?_
      simp only [h, hl, if_true]
      exact Ev.bind (goodGo_ev hn hl hok _ _ (Nat.zero_add _)) (Ev.now _)
    · have := ggGo_len hs ls (2 ^ l.length - 1) l.length 0; simp only; omega
theorem FnExactGoodTakes : ∀ (a0_0 : Int) (l0_1 : List Int), (Lit.int .i64 a0_0).wf = true → l0_1.length ≤ maxLen → (∀ x ∈ l0_1, (Lit.int .i64 x).wf = true) → ∃ k, laws_FnExactGoodTakes.f k a0_0 l0_1 = some true := by
  intro a l _ hm _
  unfold maxLen at hm
  refine Ev.rounds ?_
  unfold laws_FnExactGoodTakes.f
  simp only [szLadder_f a l hm, Option.bind_some]
  by_cases hl : l.length ≤ 1048576
  · have h2 : ¬ (1048576 - (l.length : Int)) < 0 := by omega
    obtain ⟨r, hs, hi, hr⟩ := GoodTakes_both a l
    have hneg : ¬ markEnd 1 l.length < 0 := by have := markEnd_eq l.length 1 (by omega) (by omega); omega
    have hneg2 : ¬ markEnd 1 r.1.length < 0 := by have := markEnd_eq r.1.length 1 (by omega) (by omega); omega
    simp only [hl, if_true, h2, if_false]
    repeat' (first
      | exact Ev.now _
      | ((with_reducible refine Ev.bind hs ?_); try dsimp only)
      | ((with_reducible refine Ev.bind hi ?_); try dsimp only)
      | ((with_reducible refine Ev.bind (toLadder_ev _ _ (by omega)) ?_); try dsimp only)
      | ((with_reducible refine Ev.bind (toIntS_ev _ (by omega)) ?_); try dsimp only)
      | ((with_reducible refine Ev.bind (eqLadder_refl _ _ (by omega)) ?_); try dsimp only)
      | ((with_reducible refine Ev.bind (eqIntS_refl _ (by omega)) ?_); try dsimp only)
      | ((with_reducible refine Ev.bind (markLadder_ev _ _ _ (by omega)) ?_); try dsimp only)
      | ((with_reducible refine Ev.bind (markIntS_ev _ _ (by omega)) ?_); try dsimp only)
      | ((with_reducible refine Ev.bind (heldLadder_ev _ _ _ (by omega) (by omega)) ?_); try dsimp only)
      | ((with_reducible refine Ev.bind (heldIntS_ev _ _ (by omega)) ?_); try dsimp only)
      | simp only [if_true, if_false, bne_self_eq_false, Bool.false_eq_true, eq_self, Option.bind_some, hneg, hneg2]
      )
  · simp only [hl, if_false]
    simpa using Ev.now _
end Go.Proofs.Ytnmhokkkjpjmeaa.Q
