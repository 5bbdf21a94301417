/- The pure statement of FnExactLastMoves: the program's LastMoves and the reference's give the same. Conditions: none beyond the law's own. -/
import Derived.Test.YtjppgokdocjljaaE
import Derived.Test.YtjppgokdocjljaaB5
import Derived.Test.YtjppgokdocjljaaB2
import Derived.Test.YtjppgokdocjljaaB3
import Derived.Test.YtjppgokdocjljaaB4
import Derived.Test.YtjppgokdocjljaaB13
import Derived.Test.YtjppgokdocjljaaB1
import Derived.Test.YtjppgokdocjljaaB8
import Derived.Test.YtjppgokdocjljaaB9
import Derived.Test.YtjppgokdocjljaaB11
import Derived.Test.YtjppgokdocjljaaB14
namespace Go.Proofs.Ytjppgokdocjljaa.Q
open Go.RowKit Go.Proofs.Ytjppgokdocjljaa.B Go.Proofs.YtjppgokdocjljaaW.PrintWords Go.Proofs.YtjppgokdocjljaaW.PrintLast Go.Proofs.YtjppgokdocjljaaW.PrintMore
set_option linter.unusedVariables false
set_option linter.unusedSimpArgs false
/-! Steps of indices. -/
theorem wrap_succ {i : Int} {n : Nat} (h0 : 0 ≤ i) (h : i < (n : Int)) (hn : n ≤ 9223372036854775807) : wrap64 (i + 1) = i + 1 := by
  unfold wrap64; omega
theorem wrap_in {i : Int} (h0 : -9223372036854775808 ≤ i) (h : i ≤ 9223372036854775807) : wrap64 i = i := by
  unfold wrap64; omega
theorem rd_nat (l : List Int) (j : Nat) (hj : j < l.length) : rd l (j : Int) = l[j] := by
  unfold rd; simp [hj]
theorem copy_step (l : List Int) (j : Nat) (hj : j < l.length) :
    (l.take j ++ List.replicate (l.length - j) 0).set j (l.getD j 0) = l.take (j + 1) ++ List.replicate (l.length - (j + 1)) 0 := by
  have e1 : l.length - j = (l.length - (j + 1)) + 1 := by omega
  have e2 : (l.take j).length = j := by rw [List.length_take]; omega
  rw [List.set_append_right (h := by omega), e2, e1, List.replicate_succ, Nat.sub_self, List.set_cons_zero, List.take_succ_eq_append_getElem hj, List.append_assoc]
  rw [List.getD_eq_getElem?_getD, List.getElem?_eq_getElem hj]
  rfl
/-! Rounds. -/
theorem Ev.succ {α : Type} {g : Nat → Option α} {r : α} (h : Ev (fun k => g (k + 1)) r) : Ev g r := Ev.step (f := fun k => g (k + 1)) (fun _ => rfl) h
theorem Ev.ret {α : Type} {g : Nat → Option α} {r : α} (h : ∀ k, g k = some r) : Ev g r := ⟨0, fun k _ => h k⟩
theorem Ev.eq {α : Type} {g : Nat → Option α} {r r' : α} (h : Ev g r) (e : r = r') : Ev g r' := e ▸ h
theorem Ev.iteb {α : Type} {b : Bool} {f g : Nat → Option α} {r : α} (h1 : b = true → Ev f r) (h2 : b = false → Ev g r) : Ev (fun k => if b = true then f k else g k) r := by
  cases b with
  | true => simpa using h1 rfl
  | false => simpa using h2 rfl
theorem Ev.ite {α : Type} {p : Prop} [Decidable p] {f g : Nat → Option α} {r : α} (h1 : p → Ev f r) (h2 : ¬ p → Ev g r) : Ev (fun k => if p then f k else g k) r := by
  by_cases h : p
  · simpa [h] using h1 h
  · simpa [h] using h2 h
/-- A loop over the places j, j+1, .., n: its state s, what it answers from a place and a state on. -/
theorem Ev.upto {σ ρ : Type} {L : Nat → Nat → σ → Option ρ} {R : Nat → σ → ρ} {n : Nat} (hend : ∀ s, Ev (fun k => L k n s) (R n s)) (hstep : ∀ j s, j < n → (∀ s', Ev (fun k => L k (j + 1) s') (R (j + 1) s')) → Ev (fun k => L k j s) (R j s)) :
    ∀ j s, j ≤ n → Ev (fun k => L k j s) (R j s) := by
  intro j s hj
  obtain ⟨d, hd⟩ : ∃ d, d = n - j := ⟨_, rfl⟩
  induction d generalizing j s with
  | zero => obtain rfl : j = n := by omega
            exact hend s
  | succ d ih => exact hstep j s (by omega) (fun s' => ih (j + 1) s' (by omega) (by omega))
theorem nat_succ (j : Nat) : ((j : Int) + 1) = ((j + 1 : Nat) : Int) := rfl
theorem wrap_nat (j n : Nat) (h : j < n) (hn : n ≤ 9223372036854775807) : wrap64 ((j : Int) + 1) = ((j + 1 : Nat) : Int) := by
  unfold wrap64; omega
theorem nat_toNat (j : Nat) : ((j : Int)).toNat = j := rfl
theorem take_snoc {α : Type} (l : List α) (j : Nat) (h : j < l.length) : l.take (j + 1) = l.take j ++ [l[j]] := List.take_succ_eq_append_getElem h
theorem Ev.inv {σ ρ : Type} {L : Nat → Nat → σ → Option ρ} {Inv : Nat → σ → Prop} {r : ρ} {n : Nat} (hend : ∀ s, Inv n s → Ev (fun k => L k n s) r) (hstep : ∀ j s, j < n → Inv j s → (∀ s', Inv (j + 1) s' → Ev (fun k => L k (j + 1) s') r) → Ev (fun k => L k j s) r) :
    ∀ j s, j ≤ n → Inv j s → Ev (fun k => L k j s) r := by
  intro j s hj hi
  obtain ⟨d, hd⟩ : ∃ d, d = n - j := ⟨_, rfl⟩
  induction d generalizing j s with
  | zero => obtain rfl : j = n := by omega
            exact hend s hi
  | succ d ih => exact hstep j s (by omega) hi (fun s' hs' => ih (j + 1) s' (by omega) hs' (by omega))
def irow (p : List Int) (i : Nat) : Nat → Nat → List (List Int)
  | _, 0 => []
  | j, d + 1 => (if rd p (i : Int) > rd p (j : Int) then [[(i : Int), (j : Int)]] else []) ++ irow p i (j + 1) d
def ips (p : List Int) : Nat → Nat → List (List Int)
  | _, 0 => []
  | i, d + 1 => irow p i (i + 1) d ++ ips p (i + 1) d
theorem irow_length (p : List Int) (i : Nat) (d : Nat) : ∀ j, (irow p i j d).length ≤ d := by
  induction d with
  | zero => intro j; simp [irow]
  | succ d ih => intro j; have := ih (j + 1); simp only [irow, List.length_append]; split <;> simp <;> omega
theorem ips_length (p : List Int) (d : Nat) : ∀ i, (ips p i d).length ≤ d * d := by
  induction d with
  | zero => intro j; simp [ips]
  | succ d ih =>
    intro i
    have h1 := ih (i + 1)
    have h2 := irow_length p i d (i + 1)
    have h3 : (d + 1) * (d + 1) = d * d + d + d + 1 := by rw [Nat.add_mul, Nat.mul_add]; omega
    simp only [ips, List.length_append]
    omega
theorem lsInv_l1 (p : List Int) (n : Nat) (hn : p.length = n) (hn8 : n ≤ 1000) (i : Nat) (hi : i < n) (R : List (List Int)) (d : Nat) : ∀ (j : Nat) (acc : List (List Int)), j + d = n → acc.length + d ≤ 10000000 →
    Ev (fun k => spec_lsInversions.l0 k p (acc ++ irow p i j d) (n : Int) ((i + 1 : Nat) : Int)) R → Ev (fun k => spec_lsInversions.l1 k p acc (i : Int) (j : Int) (n : Int) (i : Int)) R := by
  subst hn
  induction d with
  | zero =>
    intro j acc hj _ h
    refine Ev.succ ?_
    have g1 : ¬ (j : Int) < (p.length : Int) := by omega
    simp only [spec_lsInversions.l1, g1, if_false, wrap_nat i p.length hi (by omega)]
    simpa [irow] using h
  | succ d ih =>
    intro j acc hj hl h
    refine Ev.succ ?_
    have g1 : (j : Int) < (p.length : Int) := by omega
    have g2 : (0 : Int) ≤ (i : Int) := by omega
    have g3 : (i : Int) < (p.length : Int) := by omega
    have g4 : (0 : Int) ≤ (j : Int) := by omega
    have g5 : acc.length < 5864062014805 := by omega
    simp only [spec_lsInversions.l1, g1, g2, g3, g4, g5, if_true, wrap_nat j p.length (by omega) (by omega)]
    refine Ev.ite (fun c => ?_) (fun c => ?_)
    · refine ih (j + 1) _ (by omega) (by simp; omega) ?_
      rw [irow, if_pos c] at h
      simpa using h
    · refine ih (j + 1) _ (by omega) (by omega) ?_
      rw [irow, if_neg c] at h
      simpa using h
theorem lsInv_l0 (p : List Int) (n : Nat) (hn : p.length = n) (hn8 : n ≤ 1000) (d : Nat) : ∀ (i : Nat) (acc : List (List Int)), i + d = n → acc.length + d * 1000 ≤ 1000000 →
    Ev (fun k => spec_lsInversions.l0 k p acc (n : Int) (i : Int)) (acc ++ ips p i d) := by
  induction d with
  | zero =>
    intro i acc hi _
    refine Ev.succ ?_
    have g1 : ¬ (i : Int) < (n : Int) := by omega
    simp only [spec_lsInversions.l0, g1, if_false]
    simpa [ips] using Ev.now _
  | succ d ih =>
    intro i acc hi hl
    refine Ev.succ ?_
    have g1 : (i : Int) < (n : Int) := by omega
    simp only [spec_lsInversions.l0, g1, if_true, wrap_nat i n (by omega) (by omega)]
    refine lsInv_l1 p n hn hn8 i (by omega) _ d (i + 1) acc (by omega) (by omega) ?_
    have hr := irow_length p i d (i + 1)
    refine Ev.eq (ih (i + 1) _ (by omega) (by rw [List.length_append]; omega)) ?_
    rw [ips, List.append_assoc]
theorem lsInversions_ev (p : List Int) (hn : p.length ≤ 1000) : Ev (fun k => spec_lsInversions.f k p) (ips p 0 p.length) := by
  unfold spec_lsInversions.f
  exact Ev.eq (lsInv_l0 p p.length rfl hn p.length 0 [] (by omega) (by simp; omega)) (by simp)
theorem inverted_l1 (p : List Int) (n : Nat) (hn : p.length = n) (hn8 : n ≤ 1000) (i : Nat) (hi : i < n) (R : List (List Int)) (d : Nat) : ∀ (j : Nat) (acc : List (List Int)), j + d = n → acc.length + d ≤ 10000000 →
    Ev (fun k => impl_inverted.l0 k p (acc ++ irow p i j d) (n : Int) ((i + 1 : Nat) : Int)) R → Ev (fun k => impl_inverted.l1 k p acc (i : Int) (j : Int) (n : Int) (i : Int)) R := by
  subst hn
  induction d with
  | zero =>
    intro j acc hj _ h
    refine Ev.succ ?_
    have g1 : ¬ (j : Int) < (p.length : Int) := by omega
    simp only [impl_inverted.l1, g1, if_false, wrap_nat i p.length hi (by omega)]
    simpa [irow] using h
  | succ d ih =>
    intro j acc hj hl h
    refine Ev.succ ?_
    have g1 : (j : Int) < (p.length : Int) := by omega
    have g2 : (0 : Int) ≤ (i : Int) := by omega
    have g3 : (i : Int) < (p.length : Int) := by omega
    have g4 : (0 : Int) ≤ (j : Int) := by omega
    have g5 : acc.length < 5864062014805 := by omega
    simp only [impl_inverted.l1, g1, g2, g3, g4, g5, if_true, wrap_nat j p.length (by omega) (by omega)]
    refine Ev.ite (fun c => ?_) (fun c => ?_)
    · refine ih (j + 1) _ (by omega) (by simp; omega) ?_
      rw [irow, if_pos c] at h
      simpa using h
    · refine ih (j + 1) _ (by omega) (by omega) ?_
      rw [irow, if_neg c] at h
      simpa using h
theorem inverted_l0 (p : List Int) (n : Nat) (hn : p.length = n) (hn8 : n ≤ 1000) (d : Nat) : ∀ (i : Nat) (acc : List (List Int)), i + d = n → acc.length + d * 1000 ≤ 1000000 →
    Ev (fun k => impl_inverted.l0 k p acc (n : Int) (i : Int)) (acc ++ ips p i d) := by
  induction d with
  | zero =>
    intro i acc hi _
    refine Ev.succ ?_
    have g1 : ¬ (i : Int) < (n : Int) := by omega
    simp only [impl_inverted.l0, g1, if_false]
    simpa [ips] using Ev.now _
  | succ d ih =>
    intro i acc hi hl
    refine Ev.succ ?_
    have g1 : (i : Int) < (n : Int) := by omega
    simp only [impl_inverted.l0, g1, if_true, wrap_nat i n (by omega) (by omega)]
    refine inverted_l1 p n hn hn8 i (by omega) _ d (i + 1) acc (by omega) (by omega) ?_
    have hr := irow_length p i d (i + 1)
    refine Ev.eq (ih (i + 1) _ (by omega) (by rw [List.length_append]; omega)) ?_
    rw [ips, List.append_assoc]
theorem inverted_ev (p : List Int) (hn : p.length ≤ 1000) : Ev (fun k => impl_inverted.f k p) (ips p 0 p.length) := by
  unfold impl_inverted.f
  exact Ev.eq (inverted_l0 p p.length rfl hn p.length 0 [] (by omega) (by simp; omega)) (by simp)
def ovr (w r : Int) : Int := if w = r then wrap64 (r + 1) else if w = wrap64 (r + 1) then r else w
theorem ovr_in {w : Int} {n r : Nat} (h0 : 0 ≤ w) (h1 : w < n) (hr : r < n - 1) (hn : n ≤ 8) : 0 ≤ ovr w r ∧ ovr w r < n := by
  have e : wrap64 ((r : Int) + 1) = (r : Int) + 1 := wrap_in (by omega) (by omega)
  unfold ovr
  rw [e]
  split
  · omega
  · split <;> omega
/-- Where one comes out. -/
def endOf (w : Int) (rungs : List Int) : Int := rungs.foldl ovr w
def downs (w : Int) : List Int → List Int
  | [] => [w]
  | r :: l => w :: downs (ovr w r) l
theorem downs_length (l : List Int) : ∀ w, (downs w l).length = l.length + 1 := by
  induction l with
  | nil => intro w; rfl
  | cons r l ih => intro w; simp [downs, ih]
theorem downs_last (l : List Int) : ∀ w, (downs w l)[l.length]? = some (endOf w l) := by
  induction l with
  | nil => intro w; rfl
  | cons r l ih => intro w; simp [downs, endOf]; exact ih _
theorem downs_snoc (l : List Int) (r : Int) : ∀ w, downs w (l ++ [r]) = downs w l ++ [ovr (endOf w l) r] := by
  induction l with
  | nil => intro w; rfl
  | cons q l ih => intro w; simp [downs, ih, endOf]
theorem endOf_snoc (l : List Int) (r w : Int) : endOf w (l ++ [r]) = ovr (endOf w l) r := by simp [endOf]
/-- The result. -/
def res (n : Nat) (l : List Int) : List Int := (List.range n).map fun (i : Nat) => endOf (i : Int) l
theorem res_length (n : Nat) (l : List Int) : (res n l).length = n := by simp [res]
theorem res_take (n j : Nat) (l : List Int) (h : j < n) : (res n l).take (j + 1) = (res n l).take j ++ [endOf (j : Int) l] := by
  have hj : j < (res n l).length := by rw [res_length]; exact h
  rw [take_snoc _ j hj]; simp [res]
theorem laOver_f (w r : Int) : spec_laOver.f w r = some (ovr w r) := by
  unfold spec_laOver.f ovr; split
  · rfl
  · split <;> rfl
theorem laDown_ev (l : List Int) (w : Int) (hn : l.length ≤ 1000000) : Ev (fun k => spec_laDown.f k l w) (downs w l) := by
  have key := Ev.inv (σ := Int × List Int) (L := fun k j s => spec_laDown.l0 k s.1 s.2 l (l.length : Int) (j : Int)) (r := downs w l) (n := l.length)
    (Inv := fun j s => s.1 = endOf w (l.take j) ∧ s.2 = downs w (l.take j))
    (fun s hs => by
      obtain ⟨s1, s2⟩ := s; obtain ⟨rfl, rfl⟩ := hs
      refine Ev.succ (Ev.ret fun k => ?_)
      rw [spec_laDown.l0, if_neg (by omega), List.take_length])
    (fun j s hj hs ih => by
      obtain ⟨s1, s2⟩ := s; obtain ⟨rfl, rfl⟩ := hs
      refine Ev.succ ?_
      have h1 : (j : Int) < (l.length : Int) := by omega
      have h0 : (0 : Int) ≤ (j : Int) := by omega
      have h2 : (downs w (l.take j)).length < 17592186044416 := by rw [downs_length, List.length_take]; omega
      simp only [spec_laDown.l0, h1, h0, h2, if_true, rd_nat l j hj, wrap_nat j _ hj (by omega), laOver_f, Option.bind_some]
      have e1 : ovr (endOf w (l.take j)) l[j] = endOf w (l.take (j + 1)) := by rw [take_snoc l j hj, endOf_snoc]
      have e2 : downs w (l.take j) ++ [ovr (endOf w (l.take j)) l[j]] = downs w (l.take (j + 1)) := by rw [take_snoc l j hj, downs_snoc]
      exact ih (_, _) ⟨e1, e2⟩)
  exact key 0 (w, [w]) (Nat.zero_le _) ⟨rfl, rfl⟩
theorem laResult_ev (n : Nat) (l : List Int) (hn : n ≤ 8) (hl : l.length ≤ 1000000) : Ev (fun k => spec_laResult.f k (n : Int) l) (res n l) := by
  have key := Ev.inv (σ := List Int) (L := fun k j s => spec_laResult.l0 k (n : Int) l s (j : Int)) (r := res n l) (n := n)
    (Inv := fun j s => s = (res n l).take j)
    (fun s hs => by
      subst hs
      refine Ev.succ (Ev.ret fun k => ?_)
      rw [spec_laResult.l0, if_neg (by omega), List.take_of_length_le (by rw [res_length]; omega)])
    (fun j s hj hs ih => by
      subst hs
      refine Ev.succ ?_
      have h1 : (j : Int) < (n : Int) := by omega
      have h0 : (0 : Int) ≤ (l.length : Int) := by omega
      have h2 : (l.length : Int) < ((downs (j : Int) l).length : Int) := by rw [downs_length]; omega
      have h3 : ((res n l).take j).length < 17592186044416 := by rw [List.length_take, res_length]; omega
      simp only [spec_laResult.l0, h1, if_true, wrap_nat j n hj (by omega)]
      refine Ev.bind (laDown_ev l (j : Int) hl) ?_
      have e : rd (downs (j : Int) l) (l.length : Int) = endOf (j : Int) l := by
        unfold rd; rw [nat_toNat, List.getD_eq_getElem?_getD, downs_last]; rfl
      simp only [h0, h2, h3, if_true, e]
      exact ih _ (res_take n j l hj).symm)
  exact key 0 [] (Nat.zero_le _) rfl
theorem over_f (w r : Int) : impl_over.f w r = some (ovr w r) := by
  unfold impl_over.f ovr; split
  · rfl
  · split <;> rfl
theorem way_ev (a : Int) (l : List Int) (w : Int) (hn : l.length ≤ 1000000) : Ev (fun k => impl_way.f k a l w) (downs w l) := by
  have key := Ev.inv (σ := Int × List Int) (L := fun k j s => impl_way.l0 k s.1 s.2 l (l.length : Int) (j : Int)) (r := downs w l) (n := l.length)
    (Inv := fun j s => s.1 = endOf w (l.take j) ∧ s.2 = downs w (l.take j))
    (fun s hs => by
      obtain ⟨s1, s2⟩ := s; obtain ⟨rfl, rfl⟩ := hs
      refine Ev.succ (Ev.ret fun k => ?_)
      rw [impl_way.l0, if_neg (by omega), List.take_length])
    (fun j s hj hs ih => by
      obtain ⟨s1, s2⟩ := s; obtain ⟨rfl, rfl⟩ := hs
      refine Ev.succ ?_
      have h1 : (j : Int) < (l.length : Int) := by omega
      have h0 : (0 : Int) ≤ (j : Int) := by omega
      have h2 : (downs w (l.take j)).length < 17592186044416 := by rw [downs_length, List.length_take]; omega
      simp only [impl_way.l0, h1, h0, h2, if_true, rd_nat l j hj, wrap_nat j _ hj (by omega), over_f, Option.bind_some]
      have e1 : ovr (endOf w (l.take j)) l[j] = endOf w (l.take (j + 1)) := by rw [take_snoc l j hj, endOf_snoc]
      have e2 : downs w (l.take j) ++ [ovr (endOf w (l.take j)) l[j]] = downs w (l.take (j + 1)) := by rw [take_snoc l j hj, downs_snoc]
      exact ih (_, _) ⟨e1, e2⟩)
  exact key 0 (w, [w]) (Nat.zero_le _) ⟨rfl, rfl⟩
theorem result_ev (n : Nat) (l : List Int) (hn : n ≤ 8) (hl : l.length ≤ 1000000) : Ev (fun k => impl_result.f k (n : Int) l) (res n l) := by
  have key := Ev.inv (σ := List Int) (L := fun k j s => impl_result.l0 k (n : Int) l s (n : Int) (j : Int)) (r := res n l) (n := n)
    (Inv := fun j s => s = (res n l).take j)
    (fun s hs => by
      subst hs
      refine Ev.succ (Ev.ret fun k => ?_)
      rw [impl_result.l0, if_neg (by omega), List.take_of_length_le (by rw [res_length]; omega)])
    (fun j s hj hs ih => by
      subst hs
      refine Ev.succ ?_
      have h1 : (j : Int) < (n : Int) := by omega
      have h3 : ((res n l).take j).length < 17592186044416 := by rw [List.length_take, res_length]; omega
      simp only [impl_result.l0, h1, if_true, wrap_nat j n hj (by omega)]
      refine Ev.bind (way_ev (n : Int) l (j : Int) hl) ?_
      have e0 : wrap64 (((downs (j : Int) l).length : Int) - 1) = (l.length : Int) := by rw [downs_length]; unfold wrap64; omega
      have h0 : (0 : Int) ≤ (l.length : Int) := by omega
      have h2 : (l.length : Int) < ((downs (j : Int) l).length : Int) := by rw [downs_length]; omega
      have e : rd (downs (j : Int) l) (l.length : Int) = endOf (j : Int) l := by
        unfold rd; rw [nat_toNat, List.getD_eq_getElem?_getD, downs_last]; rfl
      simp only [e0, h0, h2, h3, if_true, e]
      exact ih _ (res_take n j l hj).symm)
  exact key 0 [] (Nat.zero_le _) rfl
theorem l1In_f (a b c : Int) : spec_l1In.f a b c = some (inB a b c) := by
  unfold spec_l1In.f inB
  split
  · rename_i h; simp [h]
  · rename_i h; simp; omega
theorem inB_iff (a b c : Int) : inB a b c = true ↔ b ≤ a ∧ a ≤ c := by unfold inB; simp
theorem l1All_ev (l : List Int) (lo hi : Int) (hn : l.length ≤ 9223372036854775807) : Ev (fun k => spec_l1All.f k l lo hi) (l.all fun x => inB x lo hi) := by
  have key := Ev.upto (L := fun k j (_ : Unit) => spec_l1All.l0 k lo hi l (l.length : Int) (j : Int)) (R := fun j _ => (l.drop j).all fun x => inB x lo hi) (n := l.length)
    (fun _ => by
      refine Ev.succ (Ev.ret fun k => ?_)
      rw [spec_l1All.l0, if_neg (by omega)]; simp)
    (fun j _ hj ih => by
      refine Ev.succ ?_
      have h1 : (j : Int) < (l.length : Int) := by omega
      have h0 : (0 : Int) ≤ (j : Int) := by omega
      simp only [spec_l1All.l0, h1, h0, if_true, l1In_f, rd_nat l j hj, Option.bind_some, wrap_nat j _ hj hn]
      rw [List.drop_eq_getElem_cons hj, List.all_cons]
      refine Ev.iteb (fun h => ?_) (fun h => ?_)
      · rw [h, Bool.true_and]; exact ih ()
      · rw [h, Bool.false_and]; exact Ev.now _)
  have := key 0 () (Nat.zero_le _)
  rw [List.drop_zero] at this
  exact this
theorem laGood_ev (a : Int) (l : List Int) : Ev (fun k => spec_laGood.f k a l) (isLadderB a l) := by
  unfold spec_laGood.f isLadderB
  simp only [l1In_f, Option.bind_some]
  refine Ev.iteb (fun h => ?_) (fun h => ?_)
  · rw [h, Bool.true_and]
    refine Ev.ite (fun h2 => ?_) (fun h2 => ?_)
    · have h3 : decide (l.length ≤ 60) = true := by simp; omega
      rw [h3, Bool.true_and]
      refine Ev.bind (l1All_ev l 0 _ (by omega)) ?_
      refine Ev.eq (Ev.now _) ?_
      rw [List.all_eq_not_any_not]
    · have h3 : decide (l.length ≤ 60) = false := by simp; omega
      rw [h3, Bool.false_and]; exact Ev.now _
  · rw [h, Bool.false_and]; exact Ev.now _
theorem isLadderB_iff (a : Int) (l : List Int) : isLadderB a l = true ↔ 2 ≤ a ∧ a ≤ 8 ∧ l.length ≤ 60 ∧ ∀ r ∈ l, 0 ≤ r ∧ r ≤ a - 2 := by
  unfold isLadderB
  by_cases h : 2 ≤ a ∧ a ≤ 8
  · have e : wrap64 (a - 2) = a - 2 := wrap_in (by omega) (by omega)
    rw [e]
    simp [inB, h.1, h.2]
  · constructor
    · intro h2; simp [inB] at h2; exact absurd h2.1 h
    · intro h2; exact absurd ⟨h2.1, h2.2.1⟩ h
def lastingB (n : Nat) (l : List Int) : Bool := decide (l.length = (ips (res n l) 0 n).length)
theorem gaLasting_ev (n : Nat) (l : List Int) : Ev (fun k => spec_gaLasting.f k (n : Int) l) (isLadderB n l && lastingB n l) := by
  unfold spec_gaLasting.f
  refine Ev.bind (laGood_ev _ l) ?_
  refine Ev.iteb (fun h => ?_) (fun h => ?_)
  · have hl := (isLadderB_iff _ l).1 h
    refine Ev.bind (laResult_ev n l (by omega) (by omega)) ?_
    refine Ev.bind (lsInversions_ev _ (by rw [res_length]; omega)) ?_
    refine Ev.eq (Ev.now _) ?_
    rw [h, res_length, lastingB, Bool.true_and, Bool.eq_iff_iff]; simp
    omega
  · rw [h, Bool.false_and]; exact Ev.now _
theorem needless_ev (n : Nat) (l : List Int) (hn : n ≤ 8) (hl : l.length ≤ 1000000) : Ev (fun k => impl_needless.f k (n : Int) l) ((l.length : Int) - ((ips (res n l) 0 n).length : Int)) := by
  unfold impl_needless.f impl_inversions.f
  refine Ev.bind (result_ev n l hn hl) ?_
  refine Ev.bind (Ev.bind (inverted_ev _ (by rw [res_length]; omega)) (Ev.now _)) ?_
  refine Ev.eq (Ev.now _) ?_
  have h := ips_length (res n l) n 0
  have h2 : n * n ≤ 8 * 8 := Nat.mul_le_mul hn hn
  rw [res_length]
  exact wrap_in (by omega) (by omega)
theorem ovr_plain {w r : Int} (h0 : 0 ≤ r) (h1 : r ≤ 1000) : ovr w r = if w = r then r + 1 else if w = r + 1 then r else w := by
  unfold ovr; rw [wrap_in (by omega) (by omega)]
theorem ovr_ovr {w r : Int} (h0 : 0 ≤ r) (h1 : r ≤ 1000) : ovr (ovr w r) r = w := by
  rw [ovr_plain h0 h1, ovr_plain h0 h1]
  split <;> split <;> (try split) <;> omega
/-- Who comes out at w. -/
def startOf (w : Int) (l : List Int) : Int := l.reverse.foldl ovr w
theorem startOf_cons (w r : Int) (l : List Int) : startOf w (r :: l) = ovr (startOf w l) r := by simp [startOf]
theorem endOf_cons (w r : Int) (l : List Int) : endOf w (r :: l) = endOf (ovr w r) l := rfl
theorem end_start (l : List Int) : ∀ (w : Int), (∀ r ∈ l, 0 ≤ r ∧ r ≤ 1000) → endOf (startOf w l) l = w := by
  induction l with
  | nil => intro w _; rfl
  | cons r l ih =>
    intro w h
    have hr := h r (by simp)
    rw [startOf_cons, endOf_cons, ovr_ovr hr.1 hr.2]
    exact ih w (fun q hq => h q (by simp [hq]))
theorem start_end (l : List Int) : ∀ (w : Int), (∀ r ∈ l, 0 ≤ r ∧ r ≤ 1000) → startOf (endOf w l) l = w := by
  induction l with
  | nil => intro w _; rfl
  | cons r l ih =>
    intro w h
    have hr := h r (by simp)
    rw [startOf_cons, endOf_cons, ih _ (fun q hq => h q (by simp [hq])), ovr_ovr hr.1 hr.2]
theorem ovr_lt {w r : Int} {n : Nat} (h0 : 0 ≤ w) (h1 : w < n) (hr0 : 0 ≤ r) (hr : r ≤ (n : Int) - 2) (hn : n ≤ 1000) : 0 ≤ ovr w r ∧ ovr w r < n := by
  rw [ovr_plain hr0 (by omega)]; split <;> (try split) <;> omega
theorem endOf_lt (l : List Int) {n : Nat} (hn : n ≤ 1000) : ∀ (w : Int), 0 ≤ w → w < n → (∀ r ∈ l, 0 ≤ r ∧ r ≤ (n : Int) - 2) → 0 ≤ endOf w l ∧ endOf w l < n := by
  induction l with
  | nil => intro w h0 h1 _; exact ⟨h0, h1⟩
  | cons r l ih =>
    intro w h0 h1 h
    have hr := h r (by simp)
    have := ovr_lt h0 h1 hr.1 hr.2 hn
    rw [endOf_cons]
    exact ih _ this.1 this.2 (fun q hq => h q (by simp [hq]))
theorem startOf_lt (l : List Int) {n : Nat} (hn : n ≤ 1000) (w : Int) (h0 : 0 ≤ w) (h1 : w < n) (h : ∀ r ∈ l, 0 ≤ r ∧ r ≤ (n : Int) - 2) : 0 ≤ startOf w l ∧ startOf w l < n := by
  induction l with
  | nil => exact ⟨h0, h1⟩
  | cons r l ih =>
    have hr := h r (by simp)
    have := ih (fun q hq => h q (by simp [hq]))
    rw [startOf_cons]
    exact ovr_lt this.1 this.2 hr.1 hr.2 hn
theorem rd_res (n : Nat) (l : List Int) (i : Nat) (hi : i < n) : rd (res n l) (i : Int) = endOf (i : Int) l := by
  rw [rd_nat _ i (by rw [res_length]; exact hi)]; simp [res]
def backL (n : Nat) (l : List Int) : List Int := (List.range n).map fun (i : Nat) => startOf (i : Int) l
theorem backL_length (n : Nat) (l : List Int) : (backL n l).length = n := by simp [backL]
theorem rd_back (n : Nat) (l : List Int) (i : Nat) (hi : i < n) : rd (backL n l) (i : Int) = startOf (i : Int) l := by
  rw [rd_nat _ i (by rw [backL_length]; exact hi)]; simp [backL]
theorem rd_set (s : List Int) (a v : Nat) (x : Int) (hv : v < s.length) : rd (s.set a x) (v : Int) = if v = a then x else rd s (v : Int) := by
  rw [rd_nat _ v (by simpa using hv), rd_nat _ v hv, List.getElem_set]
  by_cases h : a = v
  · rw [if_pos h, if_pos h.symm]
  · rw [if_neg h, if_neg (fun e => h e.symm)]
theorem laBack_ev (n : Nat) (hn : n ≤ 1000) (l : List Int) (hl : ∀ r ∈ l, 0 ≤ r ∧ r ≤ (n : Int) - 2) : Ev (fun k => spec_laBack.f k (res n l)) (backL n l) := by
  have hl2 : ∀ q ∈ l, 0 ≤ q ∧ q ≤ 1000 := fun q hq => by have := hl q hq; omega
  have key := Ev.inv (σ := List Int) (L := fun k j s => spec_laBack.l0 k s (res n l) (n : Int) (j : Int)) (r := backL n l) (n := n)
    (Inv := fun j s => s.length = n ∧ ∀ v : Nat, v < n → startOf (v : Int) l < (j : Int) → rd s (v : Int) = startOf (v : Int) l)
    (fun s hs => by
      obtain ⟨h1, h2⟩ := hs
      refine Ev.succ (Ev.ret fun k => ?_)
      rw [spec_laBack.l0, if_neg (by omega)]
      congr 1
      refine List.ext_getElem (by rw [h1, backL_length]) (fun i h3 h4 => ?_)
      have h5 := h2 i (by omega) (startOf_lt l hn (i : Int) (by omega) (by omega) hl).2
      rw [rd_nat s i h3] at h5
      rw [h5]; simp [backL])
    (fun j s hj hs ih => by
      obtain ⟨h1, h2⟩ := hs
      refine Ev.succ ?_
      have g1 : (j : Int) < (n : Int) := by omega
      have g2 : (0 : Int) ≤ (j : Int) := by omega
      have g3 : (j : Int) < ((res n l).length : Int) := by rw [res_length]; omega
      have e := endOf_lt l hn (j : Int) (by omega) (by omega) hl
      have g4 : 0 ≤ endOf (j : Int) l := e.1
      have g5 : endOf (j : Int) l < (s.length : Int) := by rw [h1]; exact e.2
      simp only [spec_laBack.l0, g1, g2, g3, if_true, rd_res n l j hj, g4, g5, wrap_nat j n hj (by omega)]
      refine ih _ ⟨by simpa using h1, fun v hv hlt => ?_⟩
      rw [rd_set _ _ _ _ (by omega)]
      by_cases c : v = (endOf (j : Int) l).toNat
      · rw [if_pos c]
        have : (v : Int) = endOf (j : Int) l := by omega
        rw [this, start_end l _ hl2]
      · rw [if_neg c]
        refine h2 v hv ?_
        have : startOf (v : Int) l ≠ (j : Int) := by
          intro e2
          have e3 := end_start l (v : Int) hl2
          rw [e2] at e3
          omega
        omega)
  unfold spec_laBack.f
  have g0 : (0 : Int) ≤ ((res n l).length : Int) := by omega
  have g1 : (((res n l).length : Int)).toNat ≤ 35184372088832 := by rw [res_length]; omega
  simp only [g0, g1, if_true]
  have e : (((res n l).length : Int)).toNat = n := by rw [res_length]; omega
  rw [e, res_length]
  exact key 0 _ (Nat.zero_le _) ⟨by simp, fun v hv h => absurd (startOf_lt l hn (v : Int) (by omega) (by omega) hl).1 (by omega)⟩
def cntv (p : List Int) (v : Int) : Nat → Nat → Nat
  | _, 0 => 0
  | j, d + 1 => (if rd p (j : Int) = v then 1 else 0) + cntv p v (j + 1) d
def cnt2 (p : List Int) (u v : Int) : Nat → Nat → Nat
  | _, 0 => 0
  | i, d + 1 => (if rd p (i : Int) = u then cntv p v (i + 1) d else 0) + cnt2 p u v (i + 1) d
theorem irow_len (p : List Int) (i j d : Nat) : (irow p i j (d + 1)).length = (if rd p (i : Int) > rd p (j : Int) then 1 else 0) + (irow p i (j + 1) d).length := by
  rw [irow, List.length_append]; split <;> simp
theorem swap_gt (x y r : Int) (h0 : 0 ≤ r) (h1 : r ≤ 1000) : (if ovr x r > ovr y r then 1 else 0) + (if x = r + 1 then (if y = r then 1 else 0) else 0) = (if x > y then 1 else 0) + (if x = r then (if y = r + 1 then 1 else 0) else (0 : Nat)) := by
  rw [ovr_plain h0 h1, ovr_plain h0 h1]
  (repeat' split) <;> omega
theorem irow_swap (p q : List Int) (r : Int) (h0 : 0 ≤ r) (h1 : r ≤ 1000) (n : Nat) (h : ∀ i : Nat, i < n → rd q (i : Int) = ovr (rd p (i : Int)) r) (i : Nat) (hi : i < n) (d : Nat) : ∀ j, j + d ≤ n →
    (irow q i j d).length + (if rd p (i : Int) = r + 1 then cntv p r j d else 0) = (irow p i j d).length + (if rd p (i : Int) = r then cntv p (r + 1) j d else 0) := by
  induction d with
  | zero => intro j _; simp [irow, cntv]
  | succ d ih =>
    intro j hj
    have h2 := ih (j + 1) (by omega)
    have h3 := swap_gt (rd p (i : Int)) (rd p (j : Int)) r h0 h1
    rw [irow_len, irow_len, h i hi, h j (by omega), cntv, cntv]
    by_cases c1 : rd p (i : Int) = r
    · have c2 : ¬ rd p (i : Int) = r + 1 := by omega
      simp only [c1, c2, if_true, if_false] at h2 h3 ⊢
      have c3 : ¬ r = r + 1 := by omega
      simp only [c3, if_false] at h2 h3 ⊢
      omega
    · by_cases c2 : rd p (i : Int) = r + 1
      · simp only [c1, c2, if_true, if_false] at h2 h3 ⊢
        have c3 : ¬ r + 1 = r := by omega
        simp only [c3, if_false] at h2 h3 ⊢
        omega
      · simp only [c1, c2, if_false] at h2 h3 ⊢
        omega
theorem ips_swap (p q : List Int) (r : Int) (h0 : 0 ≤ r) (h1 : r ≤ 1000) (n : Nat) (h : ∀ i : Nat, i < n → rd q (i : Int) = ovr (rd p (i : Int)) r) (d : Nat) : ∀ i, i + d ≤ n →
    (ips q i d).length + cnt2 p (r + 1) r i d = (ips p i d).length + cnt2 p r (r + 1) i d := by
  induction d with
  | zero => intro j _; simp [ips, cnt2]
  | succ d ih =>
    intro i hi
    have h2 := ih (i + 1) (by omega)
    have h3 := irow_swap p q r h0 h1 n h i (by omega) d (i + 1) (by omega)
    rw [ips, ips, cnt2, cnt2, List.length_append, List.length_append]
    omega
theorem cntv_eq (p : List Int) (v : Int) (n b : Nat) (hb : ∀ i : Nat, i < n → (rd p (i : Int) = v ↔ i = b)) (d : Nat) : ∀ j, j + d ≤ n → cntv p v j d = if j ≤ b ∧ b < j + d then 1 else 0 := by
  induction d with
  | zero => intro j _; rw [cntv, if_neg (by omega)]
  | succ d ih =>
    intro j hj
    rw [cntv, ih (j + 1) (by omega)]
    have h1 := hb j (by omega)
    by_cases c : j = b
    · rw [if_pos (h1.2 c), if_neg (by omega), if_pos (by omega)]
    · rw [if_neg (fun e => c (h1.1 e))]
      by_cases c2 : j + 1 ≤ b ∧ b < j + 1 + d
      · rw [if_pos c2, if_pos (by omega)]
      · rw [if_neg c2, if_neg (by omega)]
theorem cnt2_eq (p : List Int) (u v : Int) (n a b : Nat) (ha : ∀ i : Nat, i < n → (rd p (i : Int) = u ↔ i = a)) (hb : ∀ i : Nat, i < n → (rd p (i : Int) = v ↔ i = b)) (d : Nat) : ∀ i, i + d ≤ n → cnt2 p u v i d = if i ≤ a ∧ a < b ∧ b < i + d then 1 else 0 := by
  induction d with
  | zero => intro i _; rw [cnt2, if_neg (by omega)]
  | succ d ih =>
    intro i hi
    rw [cnt2, ih (i + 1) (by omega), cntv_eq p v n b hb d (i + 1) (by omega)]
    have h1 := ha i (by omega)
    by_cases c : i = a
    · rw [if_pos (h1.2 c)]
      rw [if_neg (c := i + 1 ≤ a ∧ a < b ∧ b < i + 1 + d) (by omega)]
      by_cases c2 : i + 1 ≤ b ∧ b < i + 1 + d
      · rw [if_pos c2, if_pos (by omega)]
      · rw [if_neg c2, if_neg (by omega)]
    · rw [if_neg (fun e => c (h1.1 e))]
      by_cases c2 : i + 1 ≤ a ∧ a < b ∧ b < i + 1 + d
      · rw [if_pos c2, if_pos (by omega)]
      · rw [if_neg c2, if_neg (by omega)]
/-- One rung more, and one pair more the wrong way round, or one less. -/
theorem ips_res (n : Nat) (hn : n ≤ 1000) (l : List Int) (hl : ∀ r ∈ l, 0 ≤ r ∧ r ≤ (n : Int) - 2) (r : Nat) (hr : r + 1 < n) :
    (startOf (r : Int) l < startOf ((r + 1 : Nat) : Int) l → (ips (res n (l ++ [(r : Int)])) 0 n).length = (ips (res n l) 0 n).length + 1) ∧ (¬ startOf (r : Int) l < startOf ((r + 1 : Nat) : Int) l → (ips (res n (l ++ [(r : Int)])) 0 n).length + 1 = (ips (res n l) 0 n).length) := by
  have hl2 : ∀ q ∈ l, 0 ≤ q ∧ q ≤ 1000 := fun q hq => by have := hl q hq; omega
  have pos : ∀ v : Nat, v < n → ∃ a : Nat, startOf (v : Int) l = (a : Int) ∧ a < n ∧ ∀ i : Nat, i < n → (rd (res n l) (i : Int) = (v : Int) ↔ i = a) := by
    intro v hv
    have h1 := startOf_lt l hn (v : Int) (by omega) (by omega) hl
    refine ⟨(startOf (v : Int) l).toNat, by omega, by omega, fun i hi => ?_⟩
    rw [rd_res n l i hi]
    constructor
    · intro e; have := start_end l (i : Int) hl2; rw [e] at this; omega
    · intro e
      have e2 : (i : Int) = startOf (v : Int) l := by omega
      rw [e2]; exact end_start l _ hl2
  obtain ⟨a, ea, ha, hpa⟩ := pos r (by omega)
  obtain ⟨b, eb, hb, hpb⟩ := pos (r + 1) hr
  have hab : a ≠ b := by
    intro e
    have h1 := (hpa a ha).2 rfl
    have h2 := (hpb a ha).2 e
    omega
  have key := ips_swap (res n l) (res n (l ++ [(r : Int)])) (r : Int) (by omega) (by omega) n (fun i hi => by rw [rd_res n _ i hi, rd_res n _ i hi, endOf_snoc]) n 0 (by omega)
  have e1 := cnt2_eq (res n l) (((r + 1 : Nat)) : Int) (r : Int) n b a hpb hpa n 0 (by omega)
  have e2 := cnt2_eq (res n l) (r : Int) (((r + 1 : Nat)) : Int) n a b hpa hpb n 0 (by omega)
  have e3 : ((r : Int) + 1) = ((r + 1 : Nat) : Int) := rfl
  rw [e3, e1, e2] at key
  rw [ea, eb]
  constructor
  · intro h
    rw [if_neg (by omega), if_pos (by omega)] at key; omega
  · intro h
    rw [if_pos (by omega), if_neg (by omega)] at key; omega
theorem toIntS_l0 (l : List Int) (hn : l.length ≤ 140737488351232) (d : Nat) : ∀ (k j : Nat), j ≤ l.length → l.length - j = d → d < k →
    laws_toIntS.l0 k l (l.take j ++ List.replicate (l.length - j) 0) (j : Int) = some l := by
  induction d with
  | zero =>
    intro k j h1 hd hk
    obtain ⟨k, rfl⟩ : ∃ m, k = m + 1 := ⟨k - 1, by omega⟩
    have : j = l.length := by omega
    subst this
    rw [laws_toIntS.l0, if_neg (by omega)]; simp
  | succ d ih =>
    intro k j h1 hd hk
    obtain ⟨k, rfl⟩ : ∃ m, k = m + 1 := ⟨k - 1, by omega⟩
    have hj : j < l.length := by omega
    rw [laws_toIntS.l0, if_pos (by omega), if_pos (by omega), if_pos (by simp; omega), wrap_succ (n := l.length) (by omega) (by omega) (by omega)]
    have e : (j : Int).toNat = j := rfl
    have e2 : ((j : Int) + 1) = ((j + 1 : Nat) : Int) := rfl
    unfold rd
    rw [e, copy_step l j hj, e2]
    exact ih k (j + 1) (by omega) (by omega) (by omega)
theorem toIntS_f (l : List Int) (hn : l.length ≤ 17592186043904) (k : Nat) (hk : l.length < k) : laws_toIntS.f k l = some l := by
  unfold laws_toIntS.f
  rw [if_pos (by omega), if_pos (by simp; omega)]
  have := toIntS_l0 l (by omega) l.length k 0 (by omega) (by omega) hk
  simpa using this
theorem toIntS_ev (l : List Int) (hn : l.length ≤ 17592186043904) : Ev (fun k => laws_toIntS.f k l) l :=
  ⟨l.length + 1, fun k hk => toIntS_f l hn k (by omega)⟩
theorem toLadder_ev (a : Int) (l : List Int) (hn : l.length ≤ 17592186043904) : Ev (fun k => laws_toLadder.f k a l) (a, l) := by
  unfold laws_toLadder.f
  exact Ev.bind (toIntS_ev l hn) (Ev.now _)
theorem eqIntS_l0 (a b : List Int) (he : a.length = b.length) (hn : a.length ≤ 9223372036854775807) (d : Nat) : ∀ (k j : Nat), j ≤ a.length → a.length - j = d → d < k →
    laws_eqIntS.l0 k a b (j : Int) = some (decide (a.drop j = b.drop j)) := by
  induction d with
  | zero =>
    intro k j h1 hd hk
    obtain ⟨k, rfl⟩ : ∃ m, k = m + 1 := ⟨k - 1, by omega⟩
    have h2 : a.drop j = [] := List.drop_eq_nil_of_le (by omega)
    have h3 : b.drop j = [] := List.drop_eq_nil_of_le (by omega)
    rw [laws_eqIntS.l0, if_neg (by omega), h2, h3]; simp only [decide_true]
  | succ d ih =>
    intro k j h1 hd hk
    obtain ⟨k, rfl⟩ : ∃ m, k = m + 1 := ⟨k - 1, by omega⟩
    have hj : j < a.length := by omega
    have hj2 : j < b.length := by omega
    rw [laws_eqIntS.l0, if_pos (by omega), if_pos (by omega), if_pos (by omega), rd_nat a j hj, rd_nat b j hj2, wrap_succ (n := a.length) (by omega) (by omega) hn, List.drop_eq_getElem_cons hj, List.drop_eq_getElem_cons hj2]
    by_cases h : a[j] = b[j]
    · rw [if_pos h]
      have e2 : ((j : Int) + 1) = ((j + 1 : Nat) : Int) := rfl
      rw [e2, ih k (j + 1) (by omega) (by omega) (by omega)]
      refine congrArg some (decide_eq_decide.2 ?_)
      rw [List.cons.injEq]
      exact ⟨fun e => ⟨h, e⟩, fun e => e.2⟩
    · rw [if_neg h]
      refine congrArg some (decide_eq_false ?_).symm
      rw [List.cons.injEq]
      exact fun e => h e.1
theorem eqIntS_ev (a b : List Int) (hn : a.length ≤ 9223372036854775807) : Ev (fun k => laws_eqIntS.f k a b) (decide (a = b)) := by
  refine ⟨a.length + 1, fun k hk => ?_⟩
  show laws_eqIntS.f k a b = _
  unfold laws_eqIntS.f
  by_cases h : (a.length : Int) = (b.length : Int)
  · rw [if_pos h]
    have := eqIntS_l0 a b (by omega) hn a.length k 0 (by omega) (by omega) (by omega)
    simpa using this
  · rw [if_neg h]
    have : a ≠ b := fun e => h (by rw [e])
    simp [this]
theorem eqIntS_refl (l : List Int) (hn : l.length ≤ 9223372036854775807) : Ev (fun k => laws_eqIntS.f k l l) true := Ev.eq (eqIntS_ev l l hn) (by simp)
theorem eqLadder_ev (a : Int) (l : List Int) (b : Int) (m : List Int) (hn : l.length ≤ 9223372036854775807) : Ev (fun k => laws_eqLadder.f k a l b m) (decide (a = b ∧ l = m)) := by
  unfold laws_eqLadder.f
  refine Ev.ite (fun h => ?_) (fun h => ?_)
  · refine Ev.bind (eqIntS_ev l m hn) ?_
    refine Ev.iteb (fun h2 => ?_) (fun h2 => ?_)
    · refine Ev.eq (Ev.now _) ?_; simp at h2; simp [h, h2]
    · refine Ev.eq (Ev.now _) ?_; simp at h2; simp [h2]
  · refine Ev.eq (Ev.now _) ?_; simp [h]
theorem eqLadder_refl (a : Int) (l : List Int) (hn : l.length ≤ 9223372036854775807) : Ev (fun k => laws_eqLadder.f k a l a l) true := Ev.eq (eqLadder_ev a l a l hn) (by simp)
theorem szLadder_f (a : Int) (l : List Int) (hn : l.length ≤ 9223372036854775807) : laws_szLadder.f a l 1048576 = some (if l.length ≤ 1048576 then 1048576 - (l.length : Int) else -1) := by
  unfold laws_szLadder.f laws_szIntS.f
  have e : wrap64 (1048576 - (l.length : Int)) = 1048576 - (l.length : Int) := wrap_in (by omega) (by omega)
  rw [e]
  by_cases h : l.length ≤ 1048576
  · rw [if_neg (by omega), if_pos h, Option.bind_some, if_neg (by omega)]
  · rw [if_pos (by omega), if_neg h]; rfl
/-- the marks from m on, n of them -/
def marks (m : Int) : Nat → List Int
  | 0 => []
  | n + 1 => m :: marks (wrap64 (m + 1)) n
def markEnd (m : Int) : Nat → Int
  | 0 => m
  | n + 1 => markEnd (wrap64 (m + 1)) n
theorem marks_length (n : Nat) : ∀ m, (marks m n).length = n := by
  induction n with
  | zero => intro m; rfl
  | succ n ih => intro m; simp [marks, ih]
theorem markIntS_l0 (n : Nat) : ∀ (k j : Nat) (p q : List Int) (m : Int), p.length = j → q.length = n → j + n ≤ 9223372036854775807 → n < k →
    laws_markIntS.l0 k (p ++ q) m (j : Int) = some (markEnd m n, p ++ marks m n) := by
  induction n with
  | zero =>
    intro k j p q m hp hq hb hk
    obtain ⟨k, rfl⟩ : ∃ m, k = m + 1 := ⟨k - 1, by omega⟩
    have : q = [] := List.eq_nil_of_length_eq_zero hq
    subst this
    rw [laws_markIntS.l0, if_neg (by simp; omega)]; simp [marks, markEnd]
  | succ n ih =>
    intro k j p q m hp hq hb hk
    obtain ⟨k, rfl⟩ : ∃ m, k = m + 1 := ⟨k - 1, by omega⟩
    cases q with
    | nil => simp at hq
    | cons x q =>
      rw [laws_markIntS.l0, if_pos (by simp; omega), if_pos (by omega), wrap_succ (i := (j : Int)) (n := j + n + 1) (by omega) (by omega) (by omega)]
      have e : (j : Int).toNat = j := rfl
      have e2 : ((j : Int) + 1) = ((j + 1 : Nat) : Int) := rfl
      have e3 : (p ++ x :: q).set j m = (p ++ [m]) ++ q := by
        rw [List.set_append_right (h := by omega), hp, Nat.sub_self, List.set_cons_zero, List.append_assoc]; rfl
      rw [e, e2, e3, ih k (j + 1) (p ++ [m]) q (wrap64 (m + 1)) (by simp [hp]) (by simpa using hq) (by omega) (by omega)]
      simp [marks, markEnd]
theorem markIntS_ev (l : List Int) (m : Int) (hn : l.length ≤ 9223372036854775807) : Ev (fun k => laws_markIntS.f k l m) (markEnd m l.length, marks m l.length) := by
  refine ⟨l.length + 1, fun k hk => ?_⟩
  show laws_markIntS.f k l m = _
  unfold laws_markIntS.f
  have := markIntS_l0 l.length k 0 [] l m rfl rfl (by omega) (by omega)
  simpa using this
theorem heldIntS_l0 (n : Nat) : ∀ (k j : Nat) (p : List Int) (m : Int), p.length = j → j + n ≤ 9223372036854775807 → n < k →
    laws_heldIntS.l0 k (p ++ marks m n) m (j : Int) = some (markEnd m n) := by
  induction n with
  | zero =>
    intro k j p m hp hb hk
    obtain ⟨k, rfl⟩ : ∃ m, k = m + 1 := ⟨k - 1, by omega⟩
    rw [laws_heldIntS.l0, if_neg (by simp [marks]; omega)]; rfl
  | succ n ih =>
    intro k j p m hp hb hk
    obtain ⟨k, rfl⟩ : ∃ m, k = m + 1 := ⟨k - 1, by omega⟩
    have hl := marks_length n (wrap64 (m + 1))
    rw [laws_heldIntS.l0, marks]
    have hr : rd (p ++ m :: marks (wrap64 (m + 1)) n) (j : Int) = m := by
      rw [rd_nat _ _ (by simp; omega), List.getElem_append_right (by omega)]; simp [hp]
    rw [if_pos (by simp; omega), if_pos (by omega), if_pos hr, wrap_succ (i := (j : Int)) (n := j + n + 1) (by omega) (by omega) (by omega)]
    have e2 : ((j : Int) + 1) = ((j + 1 : Nat) : Int) := rfl
    have e3 : p ++ m :: marks (wrap64 (m + 1)) n = (p ++ [m]) ++ marks (wrap64 (m + 1)) n := by simp
    rw [e2, e3, ih k (j + 1) (p ++ [m]) (wrap64 (m + 1)) (by simp [hp]) (by omega) (by omega)]
    rfl
theorem heldIntS_ev (m : Int) (n : Nat) (hn : n ≤ 9223372036854775807) : Ev (fun k => laws_heldIntS.f k (marks m n) m) (markEnd m n) := by
  refine ⟨n + 1, fun k hk => ?_⟩
  show laws_heldIntS.f k (marks m n) m = _
  unfold laws_heldIntS.f
  have := heldIntS_l0 n k 0 [] m rfl (by omega) (by omega)
  simpa using this
theorem markEnd_eq (n : Nat) : ∀ m : Int, 0 ≤ m → m + n ≤ 9223372036854775807 → markEnd m n = m + n := by
  induction n with
  | zero => intro m h0 h1; simp [markEnd]
  | succ n ih =>
    intro m h0 h1
    simp only [markEnd]
    rw [wrap_in (by omega) (by omega), ih (m + 1) (by omega) (by omega)]
    omega
theorem markLadder_ev (a : Int) (l : List Int) (m : Int) (hn : l.length ≤ 9223372036854775807) : Ev (fun k => laws_markLadder.f k a l m) (markEnd m l.length, marks m l.length) := by
  unfold laws_markLadder.f
  exact Ev.bind (markIntS_ev l m hn) (Ev.now _)
theorem heldLadder_ev (a : Int) (m : Int) (n : Nat) (h0 : 0 ≤ m) (hn : m + n ≤ 9223372036854775807) : Ev (fun k => laws_heldLadder.f k a (marks m n) m) (markEnd m n) := by
  unfold laws_heldLadder.f
  refine Ev.bind (heldIntS_ev m n (by omega)) ?_
  have := markEnd_eq n m h0 hn
  have h : ¬ markEnd m n < 0 := by omega
  simp only [h, if_false]
  exact Ev.now _
def movesTo (l : List Int) : Nat → List Int
  | 0 => []
  | j + 1 => movesTo l j ++ (if startOf (j : Int) l < startOf ((j + 1 : Nat) : Int) l then [(j : Int)] else [])
theorem movesTo_length (l : List Int) (j : Nat) : (movesTo l j).length ≤ j := by
  induction j with
  | zero => simp [movesTo]
  | succ j ih => rw [movesTo, List.length_append]; split <;> simp <;> omega
theorem LastMoves_both (a : Int) (l : List Int) : ∃ r, Ev (fun k => spec_LastMoves.f k a l) r ∧ Ev (fun k => impl_LastMoves.f k a l) r ∧ r.1.length ≤ 60 := by
  have fi : Ev (fun k => impl_LastMoves.j0 k true a l) ([], false) := Ev.succ (Ev.ret fun k => by rw [impl_LastMoves.j0]; rfl)
  by_cases h : isLadderB a l = true
  · have hl := (isLadderB_iff a l).1 h
    obtain ⟨n, rfl⟩ : ∃ n : Nat, a = n := ⟨a.toNat, by omega⟩
    have hb := ips_length (res n l) n 0
    have hn2 : n * n ≤ 8 * 8 := Nat.mul_le_mul (by omega) (by omega)
    have gn : wrap64 ((n : Int) - 1) = ((n - 1 : Nat) : Int) := by unfold wrap64; omega
    by_cases c : lastingB n l = true
    · have c0 : l.length = (ips (res n l) 0 n).length := by simpa [lastingB] using c
      have c' : (l.length : Int) - ((ips (res n l) 0 n).length : Int) = 0 := by omega
      refine ⟨(movesTo l (n - 1), true), ?_, ?_, by have := movesTo_length l (n - 1); simp only; omega⟩
      · unfold spec_LastMoves.f
        refine Ev.bind (gaLasting_ev n l) ?_
        simp only [h, c, Bool.and_self, if_true]
        refine Ev.bind (laResult_ev n l (by omega) (by omega)) ?_
        refine Ev.bind (laBack_ev n (by omega) l hl.2.2.2) ?_
        have key := Ev.inv (σ := List Int) (L := fun k j s => spec_LastMoves.l0 k (backL n l) s (j : Int) (n : Int) l) (r := (movesTo l (n - 1), true)) (n := n - 1)
          (Inv := fun j s => s = movesTo l j)
          (fun s hs => by
            subst hs
            refine Ev.succ (Ev.ret fun k => ?_)
            rw [spec_LastMoves.l0, gn, if_neg (by omega)])
          (fun j s hj hs ih => by
            subst hs
            refine Ev.succ ?_
            have hm := movesTo_length l j
            have g1 : (j : Int) < ((n - 1 : Nat) : Int) := by omega
            have g2 : (0 : Int) ≤ (j : Int) := by omega
            have g3 : (j : Int) < ((backL n l).length : Int) := by rw [backL_length]; omega
            have g4 : (0 : Int) ≤ ((j + 1 : Nat) : Int) := by omega
            have g5 : ((j + 1 : Nat) : Int) < ((backL n l).length : Int) := by rw [backL_length]; omega
            have g6 : (movesTo l j).length < 17592186044416 := by omega
            simp only [spec_LastMoves.l0, gn, wrap_nat j n (by omega) (by omega), g1, g2, g3, g4, g5, g6, if_true, rd_back n l j (by omega), rd_back n l (j + 1) (by omega)]
            refine Ev.ite (fun e => ?_) (fun e => ?_)
            · exact ih _ (by rw [movesTo, if_pos e])
            · exact ih _ (by rw [movesTo, if_neg e, List.append_nil]))
        exact key 0 [] (Nat.zero_le _) rfl
      · unfold impl_LastMoves.f impl_isLadder.f
        simp only [Option.bind_some, h, if_true]
        refine Ev.bind (needless_ev n l (by omega) (by omega)) ?_
        rw [c']
        refine Ev.succ ?_
        have key := Ev.inv (σ := List Int) (L := fun k j s => impl_LastMoves.l0 k s ((n - 1 : Nat) : Int) (j : Int) (n : Int) l) (r := (movesTo l (n - 1), true)) (n := n - 1)
          (Inv := fun j s => s = movesTo l j)
          (fun s hs => by
            subst hs
            refine Ev.succ (Ev.ret fun k => ?_)
            rw [impl_LastMoves.l0, if_neg (by omega)])
          (fun j s hj hs ih => by
            subst hs
            refine Ev.succ ?_
            have hm := movesTo_length l j
            have g1 : (j : Int) < ((n - 1 : Nat) : Int) := by omega
            have g2 : l.length ≤ 17592186044416 := by omega
            have g3 : l.length + [(j : Int)].length < 17592186044416 := by simp; omega
            have g4 : (movesTo l j).length + [(j : Int)].length < 17592186044416 := by simp; omega
            simp only [impl_LastMoves.l0, g1, if_true, slices_Clone_int_int.f, g2, Option.bind_some, wrap_nat j n (by omega) (by omega)]
            simp only [g3, g4, if_true]
            refine Ev.bind (needless_ev n (l ++ [(j : Int)]) (by omega) (by simp; omega)) ?_
            have ip := ips_res n (by omega) l hl.2.2.2 j (by omega)
            rw [List.length_append, List.length_singleton]
            refine Ev.ite (fun e => ?_) (fun e => ?_)
            · refine ih _ ?_
              by_cases e2 : startOf (j : Int) l < startOf ((j + 1 : Nat) : Int) l
              · rw [movesTo, if_pos e2]
              · have := ip.2 e2; omega
            · refine ih _ ?_
              by_cases e2 : startOf (j : Int) l < startOf ((j + 1 : Nat) : Int) l
              · have := ip.1 e2; omega
              · rw [movesTo, if_neg e2, List.append_nil])
        simp only [impl_LastMoves.j0, bne_self_eq_false, Bool.false_eq_true, if_false, gn]
        exact key 0 [] (Nat.zero_le _) rfl
    · have c0 : ¬ l.length = (ips (res n l) 0 n).length := by simpa [lastingB] using c
      have c' : ((l.length : Int) - ((ips (res n l) 0 n).length : Int) != 0) = true := by simp; omega
      have c2 : lastingB n l = false := by simpa using c
      refine ⟨([], false), ?_, ?_, by simp⟩
      · unfold spec_LastMoves.f
        refine Ev.bind (gaLasting_ev n l) ?_
        simp only [c2, Bool.and_false, Bool.false_eq_true, if_false]
        exact Ev.now _
      · unfold impl_LastMoves.f impl_isLadder.f
        simp only [Option.bind_some, h, if_true]
        refine Ev.bind (needless_ev n l (by omega) (by omega)) ?_
        rw [c']
        exact fi
  · have h' : isLadderB a l = false := by simpa using h
    refine ⟨([], false), ?_, ?_, by simp⟩
    · unfold spec_LastMoves.f spec_gaLasting.f
      refine Ev.bind (a := false) (Ev.bind (laGood_ev _ l) ?_) ?_
      · simp only [h', Bool.false_eq_true, if_false]; exact Ev.now _
      · simp only [Bool.false_eq_true, if_false]; exact Ev.now _
    · unfold impl_LastMoves.f impl_isLadder.f
      simp only [Option.bind_some, h', Bool.false_eq_true, if_false]
      exact fi
theorem FnExactLastMoves : ∀ (a0_0 : Int) (l0_1 : List Int), (Lit.int .i64 a0_0).wf = true → l0_1.length ≤ maxLen → (∀ x ∈ l0_1, (Lit.int .i64 x).wf = true) → ∃ k, laws_FnExactLastMoves.f k a0_0 l0_1 = some true := by
  intro a l _ hm _
  unfold maxLen at hm
  refine Ev.rounds ?_
  unfold laws_FnExactLastMoves.f
  simp only [szLadder_f a l hm, Option.bind_some]
  by_cases hl : l.length ≤ 1048576
  · have h2 : ¬ (1048576 - (l.length : Int)) < 0 := by omega
    obtain ⟨r, hs, hi, hr⟩ := LastMoves_both a l
    have hneg : ¬ markEnd 1 r.1.length < 0 := by have := markEnd_eq r.1.length 1 (by omega) (by omega); omega
    have hneg2 : ¬ markEnd 1 l.length < 0 := by have := markEnd_eq l.length 1 (by omega) (by omega); omega
    simp only [hl, if_true, h2, if_false]
    repeat' (first
      | exact Ev.now _
      | ((with_reducible refine Ev.bind hs ?_); try dsimp only)
      | ((with_reducible refine Ev.bind hi ?_); try dsimp only)
      | ((with_reducible refine Ev.bind (toLadder_ev _ _ (by omega)) ?_); try dsimp only)
      | ((with_reducible refine Ev.bind (toIntS_ev _ (by omega)) ?_); try dsimp only)
      | ((with_reducible refine Ev.bind (eqLadder_refl _ _ (by omega)) ?_); try dsimp only)
      | ((with_reducible refine Ev.bind (eqIntS_refl _ (by omega)) ?_); try dsimp only)
      | ((with_reducible refine Ev.bind (markLadder_ev _ _ _ (by omega)) ?_); try dsimp only)
      | ((with_reducible refine Ev.bind (markIntS_ev _ _ (by omega)) ?_); try dsimp only)
      | ((with_reducible refine Ev.bind (heldLadder_ev _ _ _ (by omega) (by omega)) ?_); try dsimp only)
      | ((with_reducible refine Ev.bind (heldIntS_ev _ _ (by omega)) ?_); try dsimp only)
      | simp only [if_true, if_false, bne_self_eq_false, Bool.false_eq_true, eq_self, Option.bind_some, hneg, hneg2]
      )
  · simp only [hl, if_false]
    simpa using Ev.now _
end Go.Proofs.Ytjppgokdocjljaa.Q
