/- Orders as lists of all numbers below their length, each once; exchanges keep them; what neighbours' exchanges reach. No program, no memory. -/
import Derived.Test.YtojbmihkdlkkcaaQtop
import Derived.Test.YtojbmihkdlkkcaaQorder
namespace Go.Proofs.Ytojbmihkdlkkcaa.Q
open Go.RowKit Go.Proofs.Ytojbmihkdlkkcaa.B Go.Proofs.YtojbmihkdlkkcaaW.PrintWords Go.Proofs.YtojbmihkdlkkcaaW.PrintLast Go.Proofs.YtojbmihkdlkkcaaW.PrintMore
set_option linter.unusedVariables false
set_option linter.unusedSimpArgs false
def isOrd (n : Nat) (p : List Int) : Prop := p.length = n ∧ p.Nodup ∧ ∀ x, x ∈ p → 0 ≤ x ∧ x < (n : Int)
def idL (n : Nat) : List Int := (List.range n).map Int.ofNat
theorem swp_perm (p : List Int) (r : Nat) (h : r + 1 < p.length) : (swp p (r : Int)).Perm p := by
  have e1 : rd p ((r : Int) + 1) = p[r + 1] := rd_nat p (r + 1) h
  have e2 : rd p (r : Int) = p[r] := rd_nat p r (by omega)
  unfold swp
  rw [e1, e2]
  show ((p.set r p[r + 1]).set (r + 1) p[r]).Perm p
  exact List.set_set_perm (by omega) h
theorem swp_isOrd {n : Nat} {p : List Int} (hp : isOrd n p) (r : Int) (h0 : 0 ≤ r) (h1 : r + 1 < (n : Int)) : isOrd n (swp p r) := by
  obtain ⟨a, b, c⟩ := hp
  obtain ⟨m, rfl⟩ : ∃ m : Nat, r = m := ⟨r.toNat, by omega⟩
  have hm := swp_perm p m (by omega)
  exact ⟨by rw [swp_length, a], hm.nodup_iff.2 b, fun x hx => c x (hm.mem_iff.1 hx)⟩
theorem topL_isOrd {n : Nat} : ∀ (l : List Int) {p : List Int}, isOrd n p → okRungs n l → isOrd n (topL p l)
  | [], _, h, _ => h
  | r :: l, p, h, hl => by
    have := hl r (by simp)
    exact topL_isOrd l (swp_isOrd h r this.1 this.2) (fun x hx => hl x (by simp [hx]))
theorem idL_isOrd (n : Nat) : isOrd n (idL n) := by
  refine ⟨by simp [idL], ?_, fun x hx => ?_⟩
  · unfold idL
    refine List.Pairwise.map _ (R := (· ≠ ·)) (fun a b h e => h (by injection e)) List.nodup_range
  · unfold idL at hx
    simp at hx
    obtain ⟨a, h, rfl⟩ := hx
    omega
theorem idL_mem {n : Nat} {x : Int} (h0 : 0 ≤ x) (h1 : x < (n : Int)) : x ∈ idL n := by
  unfold idL
  rw [List.mem_map]
  exact ⟨x.toNat, List.mem_range.2 (by omega), by show ((x.toNat : Nat) : Int) = x; omega⟩
/-- what is in no list twice, and all in another, is the other one's part -/
theorem sub_part {α : Type} [DecidableEq α] : ∀ {a b : List α}, a.Nodup → (∀ x, x ∈ a → x ∈ b) → ∃ l, (a ++ l).Perm b
  | [], b, _, _ => ⟨b, List.Perm.refl _⟩
  | x :: a, b, hn, hs => by
    rw [List.nodup_cons] at hn
    obtain ⟨l, hl⟩ := sub_part (b := b.erase x) hn.2 (fun y hy => (List.mem_erase_of_ne (fun e => hn.1 (by rw [← e]; exact hy))).2 (hs y (by simp [hy])))
    exact ⟨l, (List.Perm.cons x hl).trans (List.perm_cons_erase (hs x (by simp))).symm⟩
theorem sub_le {α : Type} [DecidableEq α] {a b : List α} (hn : a.Nodup) (hs : ∀ x, x ∈ a → x ∈ b) : a.length ≤ b.length := by
  obtain ⟨l, hl⟩ := sub_part hn hs
  have := hl.length_eq
  rw [List.length_append] at this
  omega
theorem sub_perm {α : Type} [DecidableEq α] {a b : List α} (hn : a.Nodup) (hs : ∀ x, x ∈ a → x ∈ b) (hl : b.length ≤ a.length) : a.Perm b := by
  obtain ⟨l, h⟩ := sub_part hn hs
  have h1 := h.length_eq
  rw [List.length_append] at h1
  have h2 : l = [] := List.eq_nil_of_length_eq_zero (by omega)
  rw [h2, List.append_nil] at h
  exact h
theorem isOrd_perm {n : Nat} {p : List Int} (h : isOrd n p) : p.Perm (idL n) := sub_perm h.2.1 (fun x hx => idL_mem (h.2.2 x hx).1 (h.2.2 x hx).2) (by rw [h.1]; simp [idL])
theorem isOrd_of_order {p : List Int} (h : orderB p = true) : isOrd p.length p := by
  refine ⟨rfl, ?_, fun x hx => order_mem h hx⟩
  have hk := ((orderB_iff p).1 h).2
  rw [List.nodup_iff_pairwise_ne, List.pairwise_iff_getElem]
  intro i j hi hj hij e
  refine (hk j hj).2.2 ?_
  rw [← e, List.mem_take_iff_getElem]
  exact ⟨i, by omega, rfl⟩
theorem swp_at (pre : List Int) (x y : Int) (l : List Int) : swp (pre ++ x :: y :: l) (pre.length : Int) = pre ++ y :: x :: l := by
  have e1 : rd (pre ++ x :: y :: l) ((pre.length : Int) + 1) = y := by
    rw [show ((pre.length : Int) + 1) = ((pre.length + 1 : Nat) : Int) from rfl, rd_nat _ _ (by simp)]
    simp
  have e2 : rd (pre ++ x :: y :: l) (pre.length : Int) = x := by
    rw [rd_nat _ _ (by simp)]
    simp
  unfold swp
  rw [e1, e2]
  show ((pre ++ x :: y :: l).set pre.length y).set (pre.length + 1) x = _
  rw [List.set_append_right _ _ (Nat.le_refl _), List.set_append_right _ _ (by omega)]
  simp
/-- what holds of one order and with each order of its neighbours' exchanges holds of all -/
theorem swp_closed {n : Nat} {S : List Int → Prop} (hS : ∀ p, S p → ∀ r : Nat, r + 1 < n → S (swp p (r : Int))) {a b : List Int} (h : a.Perm b) : ∀ pre : List Int, pre.length + a.length = n → S (pre ++ a) → S (pre ++ b) := by
  induction h with
  | nil => intro pre _ h; exact h
  | cons x _ ih =>
    intro pre hl h
    have := ih (pre ++ [x]) (by simp at hl ⊢; omega) (by simpa using h)
    simpa using this
  | swap x y l =>
    intro pre hl h
    have := hS _ h pre.length (by simp at hl; omega)
    rw [swp_at] at this
    exact this
  | trans h1 _ ih1 ih2 =>
    intro pre hl h
    exact ih2 pre (by rw [← h1.length_eq]; exact hl) (ih1 pre hl h)
theorem ord_closed {n : Nat} {S : List Int → Prop} (h0 : S (idL n)) (hS : ∀ p, S p → ∀ r : Nat, r + 1 < n → S (swp p (r : Int))) {p : List Int} (hp : isOrd n p) : S p :=
  swp_closed hS (isOrd_perm hp).symm [] (by simp [idL]) h0
end Go.Proofs.Ytojbmihkdlkkcaa.Q
