/- The pure statement of FnStartsTaken: starts taken out leave the meetings and the pattern of all others, wires put in stay alone, and ladders beside each other keep to themselves. Conditions: none beyond the law's own. -/
import Derived.Test.YtakddaclgppdjaaE
import Derived.Test.YtakddaclgppdjaaB1
import Derived.Test.YtakddaclgppdjaaB3
import Derived.Test.YtakddaclgppdjaaB2
import Derived.Test.YtakddaclgppdjaaB4
import Derived.Test.YtakddaclgppdjaaB5
namespace Go.Proofs.Ytakddaclgppdjaa.Q
open Go.RowKit Go.Proofs.Ytakddaclgppdjaa.B Go.Proofs.YtakddaclgppdjaaW.PrintWords Go.Proofs.YtakddaclgppdjaaW.PrintLast Go.Proofs.YtakddaclgppdjaaW.PrintMore
set_option linter.unusedVariables false
set_option linter.unusedSimpArgs false
theorem wrap_in {i : Int} (h0 : -9223372036854775808 ≤ i) (h : i ≤ 9223372036854775807) : wrap64 i = i := by
 unfold wrap64; omega
theorem rd_nat (l : List Int) (j : Nat) (hj : j < l.length) : rd l (j : Int) = l[j] := by
 unfold rd; simp [hj]
theorem Ev.succ {α : Type} {g : Nat → Option α} {r : α} (h : Ev (fun k => g (k + 1)) r) : Ev g r := Ev.step (f := fun k => g (k + 1)) (fun _ => rfl) h
theorem Ev.ret {α : Type} {g : Nat → Option α} {r : α} (h : ∀ k, g k = some r) : Ev g r := ⟨0, fun k _ => h k⟩
theorem Ev.eq {α : Type} {g : Nat → Option α} {r r' : α} (h : Ev g r) (e : r = r') : Ev g r' := e ▸ h
theorem Ev.iteb {α : Type} {b : Bool} {f g : Nat → Option α} {r : α} (h1 : b = true → Ev f r) (h2 : b = false → Ev g r) : Ev (fun k => if b = true then f k else g k) r := by
 cases b with
 | true => simpa using h1 rfl
 | false => simpa using h2 rfl
theorem Ev.ite {α : Type} {p : Prop} [Decidable p] {f g : Nat → Option α} {r : α} (h1 : p → Ev f r) (h2 : ¬ p → Ev g r) : Ev (fun k => if p then f k else g k) r := by
 by_cases h : p
 ·simpa [h] using h1 h
 ·simpa [h] using h2 h
/-- A loop over the places j, j+1, .., n: its state s, what it answers from a place and a state on. -/
theorem Ev.upto {σ ρ : Type} {L : Nat → Nat → σ → Option ρ} {R : Nat → σ → ρ} {n : Nat} (hend : ∀ s, Ev (fun k => L k n s) (R n s)) (hstep : ∀ j s, j < n → (∀ s', Ev (fun k => L k (j + 1) s') (R (j + 1) s')) → Ev (fun k => L k j s) (R j s)) :
  ∀ j s, j ≤ n → Ev (fun k => L k j s) (R j s) := by
 intro j s hj
 obtain ⟨d, hd⟩ : ∃ d, d = n - j := ⟨_, rfl⟩
 induction d generalizing j s with
 | zero =>
  obtain rfl : j = n := by omega
  exact hend s
 | succ d ih => exact hstep j s (by omega) (fun s' => ih (j + 1) s' (by omega) (by omega))
theorem wrap_nat (j n : Nat) (h : j < n) (hn : n ≤ 9223372036854775807) : wrap64 ((j : Int) + 1) = ((j + 1 : Nat) : Int) := by
 unfold wrap64; omega
theorem nat_toNat (j : Nat) : ((j : Int)).toNat = j := rfl
theorem take_snoc {α : Type} (l : List α) (j : Nat) (h : j < l.length) : l.take (j + 1) = l.take j ++ [l[j]] := List.take_succ_eq_append_getElem h
theorem Ev.inv {σ ρ : Type} {L : Nat → Nat → σ → Option ρ} {Inv : Nat → σ → Prop} {r : ρ} {n : Nat} (hend : ∀ s, Inv n s → Ev (fun k => L k n s) r) (hstep : ∀ j s, j < n → Inv j s → (∀ s', Inv (j + 1) s' → Ev (fun k => L k (j + 1) s') r) → Ev (fun k => L k j s) r) :
  ∀ j s, j ≤ n → Inv j s → Ev (fun k => L k j s) r := by
 intro j s hj hi
 obtain ⟨d, hd⟩ : ∃ d, d = n - j := ⟨_, rfl⟩
 induction d generalizing j s with
 | zero =>
  obtain rfl : j = n := by omega
  exact hend s hi
 | succ d ih => exact hstep j s (by omega) hi (fun s' hs' => ih (j + 1) s' (by omega) hs' (by omega))
def ovr (w r : Int) : Int := if w = r then wrap64 (r + 1) else if w = wrap64 (r + 1) then r else w
def tk (s : Int) : List Int → List Int
 | [] => []
 | r :: l => if ovr s r = s then (if s < r then wrap64 (r - 1) :: tk s l else r :: tk s l) else tk (ovr s r) l
theorem tk_length (l : List Int) : ∀ s, (tk s l).length ≤ l.length := by
 induction l with
 | nil => intro s; simp [tk]
 | cons r l ih =>
  intro s
  unfold tk
  split
  ·split
   ·simp; exact ih s
   ·simp; exact ih s
  ·have := ih (ovr s r); simp; omega
/-- Where one comes out. -/
def endOf (w : Int) (rungs : List Int) : Int := rungs.foldl ovr w
def downs (w : Int) : List Int → List Int
 | [] => [w]
 | r :: l => w :: downs (ovr w r) l
theorem downs_length (l : List Int) : ∀ w, (downs w l).length = l.length + 1 := by
 induction l with
 | nil => intro w; rfl
 | cons r l ih => intro w; simp [downs, ih]
theorem downs_last (l : List Int) : ∀ w, (downs w l)[l.length]? = some (endOf w l) := by
 induction l with
 | nil => intro w; rfl
 | cons r l ih => intro w; simp [downs, endOf]; exact ih _
theorem downs_snoc (l : List Int) (r : Int) : ∀ w, downs w (l ++ [r]) = downs w l ++ [ovr (endOf w l) r] := by
 induction l with
 | nil => intro w; rfl
 | cons q l ih => intro w; simp [downs, ih, endOf]
theorem endOf_snoc (l : List Int) (r w : Int) : endOf w (l ++ [r]) = ovr (endOf w l) r := by simp [endOf]
/-- The result. -/
def res (n : Nat) (l : List Int) : List Int := (List.range n).map fun (i : Nat) => endOf (i : Int) l
theorem res_length (n : Nat) (l : List Int) : (res n l).length = n := by simp [res]
theorem res_take (n j : Nat) (l : List Int) (h : j < n) : (res n l).take (j + 1) = (res n l).take j ++ [endOf (j : Int) l] := by
 have hj : j < (res n l).length := by rw [res_length]; exact h
 rw [take_snoc _ j hj]; simp [res]
theorem ovr_plain {w r : Int} (h0 : 0 ≤ r) (h1 : r ≤ 1000) : ovr w r = if w = r then r + 1 else if w = r + 1 then r else w := by
 unfold ovr; rw [wrap_in (by omega) (by omega)]
theorem ovr_ovr {w r : Int} (h0 : 0 ≤ r) (h1 : r ≤ 1000) : ovr (ovr w r) r = w := by
 rw [ovr_plain h0 h1, ovr_plain h0 h1]
 split <;> split <;> (try split) <;> omega
/-- Who comes out at w. -/
def startOf (w : Int) (l : List Int) : Int := l.reverse.foldl ovr w
theorem startOf_cons (w r : Int) (l : List Int) : startOf w (r :: l) = ovr (startOf w l) r := by simp [startOf]
theorem endOf_cons (w r : Int) (l : List Int) : endOf w (r :: l) = endOf (ovr w r) l := rfl
theorem start_end (l : List Int) : ∀ (w : Int), (∀ r ∈ l, 0 ≤ r ∧ r ≤ 1000) → startOf (endOf w l) l = w := by
 induction l with
 | nil => intro w _; rfl
 | cons r l ih =>
  intro w h
  have hr := h r (by simp)
  rw [startOf_cons, endOf_cons, ih _ (fun q hq => h q (by simp [hq])), ovr_ovr hr.1 hr.2]
theorem ovr_lt {w r : Int} {n : Nat} (h0 : 0 ≤ w) (h1 : w < n) (hr0 : 0 ≤ r) (hr : r ≤ (n : Int) - 2) (hn : n ≤ 1000) : 0 ≤ ovr w r ∧ ovr w r < n := by
 rw [ovr_plain hr0 (by omega)]; split <;> (try split) <;> omega
theorem endOf_lt (l : List Int) {n : Nat} (hn : n ≤ 1000) : ∀ (w : Int), 0 ≤ w → w < n → (∀ r ∈ l, 0 ≤ r ∧ r ≤ (n : Int) - 2) → 0 ≤ endOf w l ∧ endOf w l < n := by
 induction l with
 | nil => intro w h0 h1 _; exact ⟨h0, h1⟩
 | cons r l ih =>
  intro w h0 h1 h
  have hr := h r (by simp)
  have := ovr_lt h0 h1 hr.1 hr.2 hn
  rw [endOf_cons]
  exact ih _ this.1 this.2 (fun q hq => h q (by simp [hq]))
theorem rd_res (n : Nat) (l : List Int) (i : Nat) (hi : i < n) : rd (res n l) (i : Int) = endOf (i : Int) l := by
 rw [rd_nat _ i (by rw [res_length]; exact hi)]; simp [res]
/-- at how many rungs two change places -/
def mtc (a b : Int) : List Int → Nat
 | [] => 0
 | r :: l => (if ovr a r = b ∧ ovr b r = a then 1 else 0) + mtc (ovr a r) (ovr b r) l
theorem mtc_snoc (l : List Int) (r : Int) : ∀ a b, mtc a b (l ++ [r]) = mtc a b l + (if ovr (endOf a l) r = endOf b l ∧ ovr (endOf b l) r = endOf a l then 1 else 0) := by
 induction l with
 | nil => intro a b; show (if ovr a r = b ∧ ovr b r = a then 1 else 0) + 0 = 0 + (if ovr a r = b ∧ ovr b r = a then 1 else 0); rw [Nat.add_zero, Nat.zero_add]
 | cons q l ih =>
  intro a b
  rw [List.cons_append, mtc, ih, mtc]
  have e : ∀ w, endOf w (q :: l) = endOf (ovr w q) l := fun w => by simp [endOf]
  rw [e a, e b, Nat.add_assoc]
theorem mtc_le (l : List Int) : ∀ a b, mtc a b l ≤ l.length := by
 induction l with
 | nil => intro a b; simp [mtc]
 | cons r l ih =>
  intro a b
  have := ih (ovr a r) (ovr b r)
  rw [mtc, List.length_cons]
  split <;> omega
theorem downs_get (l : List Int) : ∀ (w : Int) (j : Nat), j ≤ l.length → (downs w l)[j]? = some (endOf w (l.take j)) := by
 induction l with
 | nil =>
  intro w j h
  obtain rfl : j = 0 := by simpa using h
  rfl
 | cons r l ih =>
  intro w j h
  cases j with
  | zero => rfl
  | succ j =>
   simp only [downs, List.getElem?_cons_succ, List.take_succ_cons]
   rw [ih (ovr w r) j (by simpa using h)]
   simp [endOf]
theorem rd_downs (l : List Int) (w : Int) (j : Nat) (h : j ≤ l.length) : rd (downs w l) (j : Int) = endOf w (l.take j) := by
 unfold rd; rw [nat_toNat, List.getD_eq_getElem?_getD, downs_get l w j h]; rfl
def shk (x s : Int) : Int := if s < x then x - 1 else x
def OKr (n : Nat) (l : List Int) : Prop := ∀ r ∈ l, 0 ≤ r ∧ r ≤ (n : Int) - 2
theorem OKr.tail {n : Nat} {r : Int} {l : List Int} (h : OKr n (r :: l)) : OKr n l := fun q hq => h q (List.mem_cons_of_mem _ hq)
theorem tk_ok {n : Nat} (hn : n ≤ 1000) (l : List Int) : ∀ s : Int, 0 ≤ s → s < n → OKr n l → OKr (n - 1) (tk s l) := by
 induction l with
 | nil => intro s _ _ _ q hq; simp [tk] at hq
 | cons r l ih =>
  intro s h0 h1 h
  have hr := h r (List.mem_cons_self ..)
  have hs := ovr_lt h0 h1 hr.1 hr.2 hn
  rw [tk]
  by_cases c : ovr s r = s
  ·rw [if_pos c]
   have c2 := c
   rw [ovr_plain hr.1 (by omega)] at c2
   have hne : s ≠ r ∧ s ≠ r + 1 := by
    constructor
    ·intro e; rw [if_pos e] at c2; omega
    ·intro e; rw [if_neg (by omega), if_pos e] at c2; omega
   by_cases d : s < r
   ·rw [if_pos d, wrap_in (by omega) (by omega)]
    intro q hq
    rcases List.mem_cons.1 hq with rfl | hq
    ·omega
    ·exact ih s h0 h1 h.tail q hq
   ·rw [if_neg d]
    intro q hq
    rcases List.mem_cons.1 hq with rfl | hq
    ·omega
    ·exact ih s h0 h1 h.tail q hq
  ·rw [if_neg c]
   exact ih _ hs.1 hs.2 h.tail
theorem tk_end {n : Nat} (hn : n ≤ 1000) (l : List Int) : ∀ s x : Int, 0 ≤ s → s < n → 0 ≤ x → x < n → x ≠ s → OKr n l → endOf (shk x s) (tk s l) = shk (endOf x l) (endOf s l) ∧ endOf x l ≠ endOf s l := by
 induction l with
 | nil => intro s x _ _ _ _ hne _; exact ⟨rfl, hne⟩
 | cons r l ih =>
  intro s x h0 h1 g0 g1 hne h
  have hr := h r (List.mem_cons_self ..)
  have hs := ovr_lt h0 h1 hr.1 hr.2 hn
  have hx := ovr_lt g0 g1 hr.1 hr.2 hn
  have es := ovr_plain (w := s) hr.1 (show r ≤ 1000 by omega)
  have ex := ovr_plain (w := x) hr.1 (show r ≤ 1000 by omega)
  have hne2 : ovr x r ≠ ovr s r := by
   intro e; rw [es, ex] at e
   (repeat' split at e) <;> omega
  have key := ih (ovr s r) (ovr x r) hs.1 hs.2 hx.1 hx.2 hne2 h.tail
  rw [tk]
  simp only [endOf_cons]
  by_cases c : ovr s r = s
  ·rw [if_pos c]
   rw [c] at key hne2 es
   have hns : s ≠ r ∧ s ≠ r + 1 := by
    constructor
    ·intro e; rw [if_pos e] at es; omega
    ·intro e; rw [if_neg (by omega), if_pos e] at es; omega
   by_cases d : s < r
   ·rw [if_pos d, wrap_in (by omega) (by omega), endOf_cons]
    have e1 : ovr (shk x s) (r - 1) = shk (ovr x r) s := by
     rw [ovr_plain (by omega) (by omega), ex]
     unfold shk
     (repeat' split) <;> omega
    rw [e1, c]; exact key
   ·rw [if_neg d, endOf_cons]
    have e1 : ovr (shk x s) r = shk (ovr x r) s := by
     rw [ovr_plain (by omega) (by omega), ex]
     unfold shk
     (repeat' split) <;> omega
    rw [e1, c]; exact key
  ·rw [if_neg c]
   have e1 : shk x s = shk (ovr x r) (ovr s r) := by
    rw [es] at c ⊢
    rw [ex]
    unfold shk
    (repeat' split at c) <;> (repeat' split) <;> omega
   rw [e1]; exact key
theorem shk_touch {s r z : Int} (h0 : 0 ≤ r) (h1 : r ≤ 1000) (c : ovr s r ≠ s) (hz : z ≠ s) : shk z s = shk (ovr z r) (ovr s r) := by
 have es := ovr_plain (w := s) h0 h1
 have ez := ovr_plain (w := z) h0 h1
 rw [es] at c ⊢
 rw [ez]
 unfold shk
 (repeat' split at c) <;> (repeat' split) <;> omega
theorem ovr_free {s r : Int} (h0 : 0 ≤ r) (h1 : r ≤ 1000) (c : ovr s r = s) : s ≠ r ∧ s ≠ r + 1 := by
 rw [ovr_plain h0 h1] at c
 constructor
 ·intro e; rw [if_pos e] at c; omega
 ·intro e; rw [if_neg (by omega), if_pos e] at c; omega
theorem shk_free {s r z q : Int} (h0 : 0 ≤ r) (h1 : r ≤ 1000) (q0 : 0 ≤ q) (q1 : q ≤ 1000) (c : ovr s r = s) (hz : z ≠ s) (hq : q = if s < r then r - 1 else r) : ovr (shk z s) q = shk (ovr z r) s := by
 have hf := ovr_free h0 h1 c
 rw [ovr_plain q0 q1, ovr_plain h0 h1, hq]
 unfold shk
 (repeat' split) <;> omega
theorem no_cross {s r x y : Int} (h0 : 0 ≤ r) (h1 : r ≤ 1000) (c : ovr s r ≠ s) (hx : x ≠ s) (hy : y ≠ s) (hxy : x ≠ y) : ¬ (ovr x r = y ∧ ovr y r = x) := by
 rw [ovr_plain h0 h1] at c
 rw [ovr_plain (w := x) h0 h1]
 rintro ⟨a, _⟩
 (repeat' split at c) <;> (repeat' split at a) <;> omega
theorem shk_inj {a b s : Int} (ha : a ≠ s) (hb : b ≠ s) : shk a s = shk b s ↔ a = b := by
 unfold shk
 constructor
 ·intro h; (repeat' split at h) <;> omega
 ·intro h; rw [h]
theorem ovr_inj {a b r : Int} (h0 : 0 ≤ r) (h1 : r ≤ 1000) (h : a ≠ b) : ovr a r ≠ ovr b r := by
 rw [ovr_plain h0 h1, ovr_plain h0 h1]
 intro e
 (repeat' split at e) <;> omega
theorem tk_mtc {n : Nat} (hn : n ≤ 1000) (l : List Int) : ∀ s x y : Int, 0 ≤ s → s < n → x ≠ s → y ≠ s → x ≠ y → OKr n l → mtc (shk x s) (shk y s) (tk s l) = mtc x y l := by
 induction l with
 | nil => intro s x y _ _ _ _ _ _; rfl
 | cons r l ih =>
  intro s x y h0 h1 hxs hys hxy h
  have hr := h r (List.mem_cons_self ..)
  have hr2 : r ≤ 1000 := by omega
  have hs := ovr_lt h0 h1 hr.1 hr.2 hn
  have n1 := ovr_inj hr.1 hr2 hxs
  have n2 := ovr_inj hr.1 hr2 hys
  have key := ih (ovr s r) (ovr x r) (ovr y r) hs.1 hs.2 n1 n2 (ovr_inj hr.1 hr2 hxy) h.tail
  rw [tk, mtc]
  by_cases c : ovr s r = s
  ·rw [if_pos c]
   rw [c] at key n1 n2
   have hf := ovr_free hr.1 hr2 c
   have main : ∀ q : Int, 0 ≤ q → q ≤ 1000 → (q = if s < r then r - 1 else r) → mtc (shk x s) (shk y s) (q :: tk s l) = (if ovr x r = y ∧ ovr y r = x then 1 else 0) + mtc (ovr x r) (ovr y r) l := by
    intro q q0 q1 hq
    rw [mtc, shk_free hr.1 hr2 q0 q1 c hxs hq, shk_free hr.1 hr2 q0 q1 c hys hq, key]
    by_cases cc : ovr x r = y ∧ ovr y r = x
    ·rw [if_pos cc, if_pos ⟨(shk_inj n1 hys).2 cc.1, (shk_inj n2 hxs).2 cc.2⟩]
    ·rw [if_neg cc, if_neg (fun k => cc ⟨(shk_inj n1 hys).1 k.1, (shk_inj n2 hxs).1 k.2⟩)]
   by_cases d : s < r
   ·rw [if_pos d, wrap_in (by omega) (by omega)]
    exact main (r - 1) (by omega) (by omega) (by rw [if_pos d])
   ·rw [if_neg d]
    exact main r (by omega) (by omega) (by rw [if_neg d])
  ·rw [if_neg c, if_neg (no_cross hr.1 hr2 c hxs hys hxy), Nat.zero_add, shk_touch hr.1 hr2 c hxs, shk_touch hr.1 hr2 c hys]
   exact key
/-- how many rungs a start goes over -/
def tch (s : Int) : List Int → Nat
 | [] => 0
 | r :: l => (if ovr s r = s then 0 else 1) + tch (ovr s r) l
theorem tk_tch (l : List Int) : ∀ s, (tk s l).length + tch s l = l.length := by
 induction l with
 | nil => intro s; rfl
 | cons r l ih =>
  intro s
  have := ih (ovr s r)
  rw [tk, tch, List.length_cons]
  by_cases c : ovr s r = s
  ·rw [if_pos c, if_pos c]
   rw [c] at this ⊢
   split <;> (rw [List.length_cons]; omega)
  ·rw [if_neg c, if_neg c]; omega
theorem tch_snoc (l : List Int) (r : Int) : ∀ s, tch s (l ++ [r]) = tch s l + (if ovr (endOf s l) r = endOf s l then 0 else 1) := by
 induction l with
 | nil => intro s; show (if ovr s r = s then 0 else 1) + 0 = 0 + (if ovr s r = s then 0 else 1); omega
 | cons q l ih => intro s; rw [List.cons_append, tch, ih, tch, endOf_cons]; omega
theorem tch_le (l : List Int) (s : Int) : tch s l ≤ l.length := by have := tk_tch l s; omega
theorem l1In_f (a b c : Int) : spec_l1In.f a b c = some (inB a b c) := by
 unfold spec_l1In.f inB
 split
 ·rename_i h; simp [h]
 ·rename_i h; simp; omega
theorem inB_iff (a b c : Int) : inB a b c = true ↔ b ≤ a ∧ a ≤ c := by unfold inB; simp
theorem btw_f (a b c : Int) : impl_between.f a b c = some (inB a b c) := by
 unfold impl_between.f inB
 split
 ·rename_i h; simp [h]
 ·rename_i h; simp; omega
theorem l1Has_ev (l : List Int) (x : Int) (hn : l.length ≤ 9223372036854775807) : Ev (fun k => spec_l1Has.f k l x) (decide (x ∈ l)) := by
 have key := Ev.upto (L := fun k j (_ : Unit) => spec_l1Has.l0 k x l (l.length : Int) (j : Int)) (R := fun j _ => decide (x ∈ l.drop j)) (n := l.length)
  (fun _ => by
   refine Ev.succ (Ev.ret fun k => ?_)
   rw [spec_l1Has.l0, if_neg (by omega)]; simp)
  (fun j _ hj ih => by
   refine Ev.succ ?_
   have h1 : (j : Int) < (l.length : Int) := by omega
   have h0 : (0 : Int) ≤ (j : Int) := by omega
   simp only [spec_l1Has.l0, h1, h0, if_true, rd_nat l j hj, wrap_nat j _ hj hn]
   rw [List.drop_eq_getElem_cons hj]
   refine Ev.ite (fun h => ?_) (fun h => ?_)
   ·refine Ev.eq (Ev.now _) ?_; simp [h]
   ·refine Ev.eq (ih ()) ?_
    have h' : ¬ x = l[j] := fun e => h e.symm
    rw [decide_eq_decide, List.mem_cons]
    exact ⟨fun m => .inr m, fun m => m.resolve_left h'⟩)
 have := key 0 () (Nat.zero_le _)
 rw [List.drop_zero] at this
 exact this
theorem l1All_ev (l : List Int) (lo hi : Int) (hn : l.length ≤ 9223372036854775807) : Ev (fun k => spec_l1All.f k l lo hi) (l.all fun x => inB x lo hi) := by
 have key := Ev.upto (L := fun k j (_ : Unit) => spec_l1All.l0 k lo hi l (l.length : Int) (j : Int)) (R := fun j _ => (l.drop j).all fun x => inB x lo hi) (n := l.length)
  (fun _ => by
   refine Ev.succ (Ev.ret fun k => ?_)
   rw [spec_l1All.l0, if_neg (by omega)]; simp)
  (fun j _ hj ih => by
   refine Ev.succ ?_
   have h1 : (j : Int) < (l.length : Int) := by omega
   have h0 : (0 : Int) ≤ (j : Int) := by omega
   simp only [spec_l1All.l0, h1, h0, if_true, l1In_f, rd_nat l j hj, Option.bind_some, wrap_nat j _ hj hn]
   rw [List.drop_eq_getElem_cons hj, List.all_cons]
   refine Ev.iteb (fun h => ?_) (fun h => ?_)
   ·rw [h, Bool.true_and]; exact ih ()
   ·rw [h, Bool.false_and]; exact Ev.now _)
 have := key 0 () (Nat.zero_le _)
 rw [List.drop_zero] at this
 exact this
theorem laGood_ev (a : Int) (l : List Int) : Ev (fun k => spec_laGood.f k a l) (isLadderB a l) := by
 unfold spec_laGood.f isLadderB
 simp only [l1In_f, Option.bind_some]
 refine Ev.iteb (fun h => ?_) (fun h => ?_)
 ·rw [h, Bool.true_and]
  refine Ev.ite (fun h2 => ?_) (fun h2 => ?_)
  ·have h3 : decide (l.length ≤ 60) = true := by simp; omega
   rw [h3, Bool.true_and]
   refine Ev.bind (l1All_ev l 0 _ (by omega)) ?_
   refine Ev.eq (Ev.now _) ?_
   rw [List.all_eq_not_any_not]
  ·have h3 : decide (l.length ≤ 60) = false := by simp; omega
   rw [h3, Bool.false_and]; exact Ev.now _
 ·rw [h, Bool.false_and]; exact Ev.now _
theorem isLadderB_iff (a : Int) (l : List Int) : isLadderB a l = true ↔ 2 ≤ a ∧ a ≤ 8 ∧ l.length ≤ 60 ∧ ∀ r ∈ l, 0 ≤ r ∧ r ≤ a - 2 := by
 unfold isLadderB
 by_cases h : 2 ≤ a ∧ a ≤ 8
 ·have e : wrap64 (a - 2) = a - 2 := wrap_in (by omega) (by omega)
  rw [e]
  simp [inB, h.1, h.2]
 ·constructor
  ·intro h2; simp [inB] at h2; exact absurd h2.1 h
  ·intro h2; exact absurd ⟨h2.1, h2.2.1⟩ h
def ifLadder (a : Int) (l : List Int) : Int × List Int × Bool := if isLadderB a l = true then (a, l, true) else (0, [], false)
theorem checked_f (a : Int) (l : List Int) : impl_checked.f a l = some (ifLadder a l) := by
 unfold impl_checked.f impl_isLadder.f ifLadder
 simp only [Option.bind_some]
 cases isLadderB a l <;> rfl
theorem ifLadder_length (a : Int) (l : List Int) : (ifLadder a l).2.1.length ≤ 60 := by
 unfold ifLadder
 by_cases h : isLadderB a l = true
 ·rw [if_pos h]; exact ((isLadderB_iff a l).1 h).2.2.1
 ·rw [if_neg h]; exact Nat.zero_le _
theorem laIf_ev (a : Int) (l : List Int) : Ev (fun k => spec_laIf.f k a l) (ifLadder a l) := by
 unfold spec_laIf.f ifLadder
 refine Ev.bind (laGood_ev a l) ?_
 refine Ev.iteb (fun h => ?_) (fun h => ?_)
 ·rw [h]; exact Ev.now _
 ·rw [h]; exact Ev.now _
def moved (x r : Int) : Int := if r ≥ x then wrap64 (r + 1) else r
def putV (a : Int) (l : List Int) (x : Int) : Int × List Int × Bool := if isLadderB a l = true ∧ inB x 0 a = true ∧ ¬ (wrap64 (x - 1) ∈ l) then ifLadder (wrap64 (a + 1)) (l.map (moved x)) else (0, [], false)
theorem PutWire_vals (a : Int) (l : List Int) (x : Int) : Ev (fun k => spec_PutWire.f k a l x) (putV a l x) ∧ Ev (fun k => impl_PutWire.f k a l x) (putV a l x) ∧ (putV a l x).2.1.length ≤ 60 := by
 unfold putV
 have fails : Ev (fun k => spec_PutWire.j0 k x true a l) (0, [], false) := Ev.succ (Ev.ret fun k => by rw [spec_PutWire.j0]; rfl)
 have faili : Ev (fun k => impl_PutWire.j0 k x true a l) (0, [], false) := Ev.succ (Ev.ret fun k => by rw [impl_PutWire.j0]; rfl)
 have hS : Ev (fun k => spec_PutWire.f k a l x) (if isLadderB a l = true ∧ inB x 0 a = true ∧ ¬ (wrap64 (x - 1) ∈ l) then ifLadder (wrap64 (a + 1)) (l.map (moved x)) else (0, [], false)) := by
  unfold spec_PutWire.f
  refine Ev.bind (laGood_ev a l) ?_
  refine Ev.iteb (fun h => ?_) (fun h => ?_)
  ·have hl := ((isLadderB_iff a l).1 h).2.2.1
   simp only [l1In_f, Option.bind_some]
   refine Ev.iteb (fun h2 => ?_) (fun h2 => ?_)
   ·refine Ev.bind (l1Has_ev l _ (by omega)) ?_
    refine Ev.succ ?_
    simp only [spec_PutWire.j0]
    refine Ev.iteb (fun h3 => ?_) (fun h3 => ?_)
    ·rw [if_neg (by simp at h3; simp [h3])]; exact Ev.now _
    ·rw [if_pos (by simp at h3; simp [h, h2, h3])]
     have key := Ev.inv (σ := List Int) (L := fun k j s => spec_PutWire.l0 k x l (l.length : Int) (j : Int) (wrap64 (a + 1)) s) (r := ifLadder (wrap64 (a + 1)) (l.map (moved x))) (n := l.length)
      (Inv := fun j s => s = (l.take j).map (moved x))
      (fun s hs => by
       subst hs
       refine Ev.succ ?_
       have g1 : ¬ (l.length : Int) < (l.length : Int) := by omega
       simp only [spec_PutWire.l0, g1, if_false, List.take_length]
       exact Ev.bind (laIf_ev _ _) (Ev.now _))
      (fun j s hj hs ih => by
       subst hs
       refine Ev.succ ?_
       have g1 : (j : Int) < (l.length : Int) := by omega
       have g0 : (0 : Int) ≤ (j : Int) := by omega
       have g2 : ((l.take j).map (moved x)).length < 17592186044416 := by rw [List.length_map, List.length_take]; omega
       simp only [spec_PutWire.l0, g1, g0, g2, if_true, rd_nat l j hj, wrap_nat j _ hj (by omega)]
       refine Ev.ite (fun h => ih _ ?_) (fun h => ih _ ?_)
       ·rw [take_snoc l j hj, List.map_append, List.map_cons, List.map_nil, moved, if_pos h]
       ·rw [take_snoc l j hj, List.map_append, List.map_cons, List.map_nil, moved, if_neg h])
     exact key 0 [] (Nat.zero_le _) rfl
   ·rw [if_neg (by simp [h2])]; exact fails
  ·rw [if_neg (by simp [h])]; exact fails
 refine ⟨hS, ?_, ?_⟩
 ·unfold impl_PutWire.f impl_isLadder.f
  simp only [Option.bind_some, btw_f]
  refine Ev.iteb (fun h => ?_) (fun h => ?_)
  ·have hl := (isLadderB_iff a l).1 h
   cases h2 : inB x 0 a with
   | false => simpa using faili
   | true =>
    have hx : 0 ≤ x ∧ x ≤ a := by unfold inB at h2; simpa using h2
    have ex : wrap64 (x - 1) = x - 1 := wrap_in (by omega) (by omega)
    simp only [Bool.not_true]
    refine Ev.succ ?_
    simp only [impl_PutWire.j0, Bool.false_eq_true, if_false]
    have key : ∀ d j, j ≤ l.length → l.length - j = d → (¬ (x - 1) ∈ l.take j) → Ev (fun k => impl_PutWire.l0 k x l (l.length : Int) (j : Int) (wrap64 (a + 1)) ((l.take j).map (moved x))) (if isLadderB a l = true ∧ True ∧ ¬ (wrap64 (x - 1) ∈ l) then ifLadder (wrap64 (a + 1)) (l.map (moved x)) else (0, [], false)) := by
     intro d
     induction d with
     | zero =>
      intro j h1 hd hn
      obtain rfl : j = l.length := by omega
      rw [List.take_length] at hn
      refine Ev.succ ?_
      have g1 : ¬ (l.length : Int) < (l.length : Int) := by omega
      simp only [impl_PutWire.l0, g1, if_false, List.take_length, checked_f, Option.bind_some]
      rw [if_pos ⟨h, trivial, by rw [ex]; exact hn⟩]
      exact Ev.now _
     | succ d ih =>
      intro j h1 hd hn
      have hj : j < l.length := by omega
      refine Ev.succ ?_
      have g1 : (j : Int) < (l.length : Int) := by omega
      have g0 : (0 : Int) ≤ (j : Int) := by omega
      have g2 : ((l.take j).map (moved x)).length < 17592186044416 := by rw [List.length_map, List.length_take]; omega
      simp only [impl_PutWire.l0, g1, g0, g2, if_true, rd_nat l j hj, ex, wrap_nat j _ hj (by omega)]
      refine Ev.ite (fun h3 => ?_) (fun h3 => ?_)
      ·rw [if_neg (by rw [← h3]; simp [List.getElem_mem hj])]; exact Ev.now _
      ·have hn' : ¬ (x - 1) ∈ l.take (j + 1) := by
        rw [take_snoc l j hj, List.mem_append, List.mem_singleton]
        exact fun e => e.elim hn (fun e => h3 e.symm)
       have := ih (j + 1) (by omega) (by omega) hn'
       rw [ex] at this
       rw [take_snoc l j hj, List.map_append] at this
       refine Ev.ite (fun h4 => ?_) (fun h4 => ?_)
       ·simpa [moved, h4] using this
       ·simpa [moved, h4] using this
    have := key l.length 0 (Nat.zero_le _) (by omega) (by simp)
    simpa using this
  ·rw [if_neg (by simp [h])]; exact faili
 ·split
  ·exact ifLadder_length _ _
  ·simp
def besideR (a : Int) (l m : List Int) : List Int := l ++ m.map (fun r => wrap64 (a + r))
theorem besideR_length (a : Int) (l m : List Int) : (besideR a l m).length = l.length + m.length := by unfold besideR; rw [List.length_append, List.length_map]
def besV (a : Int) (l : List Int) (b : Int) (m : List Int) : Int × List Int × Bool := if isLadderB a l = true ∧ isLadderB b m = true then ifLadder (wrap64 (a + b)) (besideR a l m) else (0, [], false)
theorem BesideLadders_vals (a : Int) (l : List Int) (b : Int) (m : List Int) : Ev (fun k => spec_BesideLadders.f k a l b m) (besV a l b m) ∧ Ev (fun k => impl_BesideLadders.f k a l b m) (besV a l b m) ∧ (besV a l b m).2.1.length ≤ 60 := by
 by_cases h : isLadderB a l = true
 ·by_cases h2 : isLadderB b m = true
  ·have hl := ((isLadderB_iff a l).1 h).2.2.1
   have hm := ((isLadderB_iff b m).1 h2).2.2.1
   rw [show besV a l b m = ifLadder (wrap64 (a + b)) (besideR a l m) from if_pos ⟨h, h2⟩]
   refine ⟨?_, ?_, ifLadder_length _ _⟩
   ·unfold spec_BesideLadders.f
    refine Ev.bind (laGood_ev a l) ?_
    simp only [h, if_true]
    refine Ev.bind (laGood_ev b m) ?_
    simp only [h2, Bool.not_true]
    have e1 : spec_l1Own.f l = some l := by unfold spec_l1Own.f; simp only [Option.bind_some]; rw [if_pos (by simp; omega)]; rfl
    refine Ev.succ ?_
    simp only [spec_BesideLadders.j0, Bool.false_eq_true, if_false, e1, Option.bind_some]
    have key := Ev.inv (σ := List Int) (L := fun k j s => spec_BesideLadders.l0 k m (m.length : Int) (j : Int) a l (wrap64 (a + b)) s) (r := ifLadder (wrap64 (a + b)) (besideR a l m)) (n := m.length)
     (Inv := fun j s => s = besideR a l (m.take j))
     (fun s hs => by
      subst hs
      refine Ev.succ ?_
      have g1 : ¬ (m.length : Int) < (m.length : Int) := by omega
      simp only [spec_BesideLadders.l0, g1, if_false, List.take_length]
      exact Ev.bind (laIf_ev _ _) (Ev.now _))
     (fun j s hj hs ih => by
      subst hs
      refine Ev.succ ?_
      have g1 : (j : Int) < (m.length : Int) := by omega
      have g0 : (0 : Int) ≤ (j : Int) := by omega
      have g2 : (besideR a l (m.take j)).length < 17592186044416 := by rw [besideR_length, List.length_take]; omega
      simp only [spec_BesideLadders.l0, g1, g0, g2, if_true, rd_nat m j hj, wrap_nat j _ hj (by omega)]
      refine ih _ ?_
      rw [take_snoc m j hj]; unfold besideR; rw [List.map_append, List.append_assoc]; rfl)
    exact key 0 l (Nat.zero_le _) (by simp [besideR])
   ·unfold impl_BesideLadders.f impl_isLadder.f
    simp only [Option.bind_some, h, h2, if_true, Bool.not_true]
    have e1 : slices_Clone_int_int.f l = some l := by unfold slices_Clone_int_int.f; rw [if_pos (by omega)]
    refine Ev.succ ?_
    simp only [impl_BesideLadders.j0, Bool.false_eq_true, if_false, e1, Option.bind_some]
    have key := Ev.inv (σ := List Int) (L := fun k j s => impl_BesideLadders.l0 k m (m.length : Int) (j : Int) a l (wrap64 (a + b)) s) (r := ifLadder (wrap64 (a + b)) (besideR a l m)) (n := m.length)
     (Inv := fun j s => s = besideR a l (m.take j))
     (fun s hs => by
      subst hs
      refine Ev.succ ?_
      have g1 : ¬ (m.length : Int) < (m.length : Int) := by omega
      simp only [impl_BesideLadders.l0, g1, if_false, List.take_length]
      simp only [checked_f, Option.bind_some]; exact Ev.now _)
     (fun j s hj hs ih => by
      subst hs
      refine Ev.succ ?_
      have g1 : (j : Int) < (m.length : Int) := by omega
      have g0 : (0 : Int) ≤ (j : Int) := by omega
      have g2 : (besideR a l (m.take j)).length < 17592186044416 := by rw [besideR_length, List.length_take]; omega
      simp only [impl_BesideLadders.l0, g1, g0, g2, if_true, rd_nat m j hj, wrap_nat j _ hj (by omega)]
      refine ih _ ?_
      rw [take_snoc m j hj]; unfold besideR; rw [List.map_append, List.append_assoc]; rfl)
    exact key 0 l (Nat.zero_le _) (by simp [besideR])
  ·have h' : isLadderB b m = false := by simpa using h2
   rw [show besV a l b m = (0, [], false) from if_neg (fun hh => h2 hh.2)]
   refine ⟨?_, ?_, Nat.zero_le _⟩
   ·unfold spec_BesideLadders.f
    refine Ev.bind (laGood_ev a l) ?_
    simp only [h, if_true]
    refine Ev.bind (laGood_ev b m) ?_
    simp only [h', Bool.not_false]
    refine Ev.succ ?_
    simp only [spec_BesideLadders.j0, if_true]
    exact Ev.now _
   ·unfold impl_BesideLadders.f impl_isLadder.f
    simp only [Option.bind_some, h, h', if_true, Bool.not_false]
    refine Ev.succ ?_
    simp only [impl_BesideLadders.j0, if_true]
    exact Ev.now _
 ·have h' : isLadderB a l = false := by simpa using h
  rw [show besV a l b m = (0, [], false) from if_neg (fun hh => h hh.1)]
  refine ⟨?_, ?_, Nat.zero_le _⟩
  ·unfold spec_BesideLadders.f
   refine Ev.bind (laGood_ev a l) ?_
   simp only [h', Bool.false_eq_true, if_false]
   refine Ev.succ ?_
   simp only [spec_BesideLadders.j0, if_true]
   exact Ev.now _
  ·unfold impl_BesideLadders.f impl_isLadder.f
   simp only [Option.bind_some, h', Bool.false_eq_true, if_false]
   refine Ev.succ ?_
   simp only [impl_BesideLadders.j0, if_true]
   exact Ev.now _
def dbl (r : Int) : List Int := [wrap64 ((wrap64 (2 * r)) + 1), wrap64 (2 * r), wrap64 ((wrap64 (2 * r)) + 2), wrap64 ((wrap64 (2 * r)) + 1)]
theorem dbl_length (l : List Int) : (l.flatMap dbl).length = 4 * l.length := by
 induction l with
 | nil => rfl
 | cons x l ih => rw [List.flatMap_cons, List.length_append, ih]; simp [dbl]; omega
def dblV (a : Int) (l : List Int) : Int × List Int × Bool := if isLadderB a l = true then ifLadder (wrap64 (2 * a)) (l.flatMap dbl) else (0, [], false)
theorem DoubleLadder_vals (a : Int) (l : List Int) : Ev (fun k => spec_DoubleLadder.f k a l) (dblV a l) ∧ Ev (fun k => impl_DoubleLadder.f k a l) (dblV a l) ∧ (dblV a l).2.1.length ≤ 60 := by
 by_cases h : isLadderB a l = true
 ·have hl := ((isLadderB_iff a l).1 h).2.2.1
  rw [show dblV a l = ifLadder (wrap64 (2 * a)) (l.flatMap dbl) from if_pos h]
  refine ⟨?_, ?_, ifLadder_length _ _⟩
  ·unfold spec_DoubleLadder.f
   refine Ev.bind (laGood_ev a l) ?_
   simp only [h, if_true]
   have key := Ev.inv (σ := List Int) (L := fun k j s => spec_DoubleLadder.l0 k l (l.length : Int) (j : Int) (wrap64 (2 * a)) s) (r := ifLadder (wrap64 (2 * a)) (l.flatMap dbl)) (n := l.length)
    (Inv := fun j s => s = (l.take j).flatMap dbl)
    (fun s hs => by
     subst hs
     refine Ev.succ ?_
     have g1 : ¬ (l.length : Int) < (l.length : Int) := by omega
     simp only [spec_DoubleLadder.l0, g1, if_false, List.take_length]
     exact Ev.bind (laIf_ev _ _) (Ev.now _))
    (fun j s hj hs ih => by
     subst hs
     refine Ev.succ ?_
     have g1 : (j : Int) < (l.length : Int) := by omega
     have g0 : (0 : Int) ≤ (j : Int) := by omega
     have g2 : ((l.take j).flatMap dbl).length + [wrap64 ((wrap64 (2 * l[j])) + 1), wrap64 (2 * l[j]), wrap64 ((wrap64 (2 * l[j])) + 2), wrap64 ((wrap64 (2 * l[j])) + 1)].length < 17592186044416 := by rw [dbl_length, List.length_take]; simp; omega
     simp only [spec_DoubleLadder.l0, g1, g0, if_true, rd_nat l j hj, Option.bind_some, wrap_nat j _ hj (by omega)]
     simp only [g2, if_true]
     refine ih _ ?_
     rw [take_snoc l j hj, List.flatMap_append]; simp [dbl])
   exact key 0 [] (Nat.zero_le _) rfl
  ·unfold impl_DoubleLadder.f impl_isLadder.f
   simp only [Option.bind_some, h, if_true]
   have key := Ev.inv (σ := List Int) (L := fun k j s => impl_DoubleLadder.l0 k l (l.length : Int) (j : Int) (wrap64 (2 * a)) s) (r := ifLadder (wrap64 (2 * a)) (l.flatMap dbl)) (n := l.length)
    (Inv := fun j s => s = (l.take j).flatMap dbl)
    (fun s hs => by
     subst hs
     refine Ev.succ ?_
     have g1 : ¬ (l.length : Int) < (l.length : Int) := by omega
     simp only [impl_DoubleLadder.l0, g1, if_false, List.take_length, checked_f, Option.bind_some]
     exact Ev.now _)
    (fun j s hj hs ih => by
     subst hs
     refine Ev.succ ?_
     have g1 : (j : Int) < (l.length : Int) := by omega
     have g0 : (0 : Int) ≤ (j : Int) := by omega
     have g2 : ((l.take j).flatMap dbl).length + [wrap64 ((wrap64 (2 * l[j])) + 1), wrap64 (2 * l[j]), wrap64 ((wrap64 (2 * l[j])) + 2), wrap64 ((wrap64 (2 * l[j])) + 1)].length < 17592186044416 := by rw [dbl_length, List.length_take]; simp; omega
     simp only [impl_DoubleLadder.l0, g1, g0, if_true, rd_nat l j hj, Option.bind_some, wrap_nat j _ hj (by omega)]
     simp only [g2, if_true]
     refine ih _ ?_
     rw [take_snoc l j hj, List.flatMap_append]; simp [dbl])
   exact key 0 [] (Nat.zero_le _) rfl
 ·have h' : isLadderB a l = false := by simpa using h
  rw [show dblV a l = (0, [], false) from if_neg h]
  refine ⟨?_, ?_, Nat.zero_le _⟩
  ·unfold spec_DoubleLadder.f
   refine Ev.bind (laGood_ev a l) ?_
   simp only [h', Bool.false_eq_true, if_false]
   exact Ev.now _
  ·unfold impl_DoubleLadder.f impl_isLadder.f
   simp only [Option.bind_some, h', Bool.false_eq_true, if_false]
   exact Ev.now _
def chg (x : List Int) : Nat → Nat → Nat
 | _, 0 => 0
 | j, d + 1 => (if rd x (j : Int) = rd x ((j + 1 : Nat) : Int) then 0 else 1) + chg x (j + 1) d
theorem ovr_stay {w r : Int} (h0 : 0 ≤ r) (h1 : r ≤ 1000) (ha : w ≠ r) (hb : w ≠ r + 1) : ovr w r = w := by
 rw [ovr_plain h0 h1, if_neg ha, if_neg hb]
theorem end_stay (w : Int) (l : List Int) (h : ∀ r ∈ l, 0 ≤ r ∧ r ≤ 1000 ∧ w ≠ r ∧ w ≠ r + 1) : endOf w l = w := by
 induction l with
 | nil => rfl
 | cons r l ih =>
  have hr := h r (List.mem_cons_self ..)
  rw [endOf_cons, ovr_stay hr.1 hr.2.1 hr.2.2.1 hr.2.2.2]
  exact ih fun q hq => h q (List.mem_cons_of_mem _ hq)
theorem moved_ok {n : Nat} {x : Int} (hn : n ≤ 900) {r : Int} (h0 : 0 ≤ r) (h1 : r ≤ (n : Int) - 2) (hne : r ≠ x - 1) : 0 ≤ moved x r ∧ moved x r ≤ (n : Int) - 1 ∧ x ≠ moved x r ∧ x ≠ moved x r + 1 ∧ (if x < moved x r then wrap64 (moved x r - 1) else moved x r) = r := by
 unfold moved
 rw [wrap_in (by omega) (by omega)]
 by_cases c : r ≥ x
 ·rw [if_pos c, if_pos (by omega), wrap_in (by omega) (by omega)]; omega
 ·rw [if_neg c, if_neg (by omega)]; omega
section put
variable {n : Nat} {x : Int} (hn : n ≤ 900)
include hn
theorem put_end (l : List Int) (hl : OKr n l) (hm : ¬ (x - 1) ∈ l) : endOf x (l.map (moved x)) = x := by
 refine end_stay x _ fun q hq => ?_
 obtain ⟨r, hr, rfl⟩ := List.mem_map.1 hq
 have h := hl r hr
 have := moved_ok hn h.1 h.2 (fun e => hm (e ▸ hr))
 omega
theorem put_take (l : List Int) (hl : OKr n l) (hm : ¬ (x - 1) ∈ l) : tk x (l.map (moved x)) = l := by
 induction l with
 | nil => rfl
 | cons r l ih =>
  have h := hl r (List.mem_cons_self ..)
  have hk := moved_ok hn h.1 h.2 (fun e => hm (e ▸ List.mem_cons_self ..))
  rw [List.map_cons, tk, if_pos (ovr_stay (by omega) (by omega) hk.2.2.1 hk.2.2.2.1), ih hl.tail fun e => hm (List.mem_cons_of_mem _ e)]
  have h5 := hk.2.2.2.2
  by_cases c : x < moved x r
  ·rw [if_pos c] at h5 ⊢; rw [h5]
  ·rw [if_neg c] at h5 ⊢; rw [h5]
theorem put_chg (l : List Int) (hl : OKr n l) (hm : ¬ (x - 1) ∈ l) : chg (downs x (l.map (moved x))) 0 (l.map (moved x)).length = 0 := by
 have hst : ∀ j, j ≤ (l.map (moved x)).length → rd (downs x (l.map (moved x))) (j : Int) = x := by
  intro j hj
  rw [rd_downs _ _ j hj, ← List.map_take]
  exact put_end hn _ (fun r hr => hl r (List.mem_of_mem_take hr)) (fun e => hm (List.mem_of_mem_take e))
 have key : ∀ d j, j + d = (l.map (moved x)).length → chg (downs x (l.map (moved x))) j d = 0 := by
  intro d
  induction d with
  | zero => intro j _; rfl
  | succ d ih => intro j hj; rw [chg, hst j (by omega), hst (j + 1) (by omega), if_pos rfl, ih (j + 1) (by omega)]
 exact key _ 0 (by omega)
end put
theorem besideR_val {a b : Nat} (hab : a + b ≤ 900) (l m : List Int) (hm : OKr b m) : besideR (a : Int) l m = l ++ m.map (fun r => (a : Int) + r) := by
 unfold besideR
 congr 1
 apply List.map_congr_left
 intro r hr
 have := hm r hr
 exact wrap_in (by omega) (by omega)
theorem end_app (w : Int) (l m : List Int) : endOf w (l ++ m) = endOf (endOf w l) m := by simp [endOf]
theorem end_shift (a : Nat) (b : Nat) (hab : a + b ≤ 900) (m : List Int) : ∀ (j : Int), OKr b m → endOf ((a : Int) + j) (m.map (fun r => (a : Int) + r)) = (a : Int) + endOf j m := by
 induction m with
 | nil => intro j _; rfl
 | cons r m ih =>
  intro j h
  have hr := h r (List.mem_cons_self ..)
  rw [List.map_cons, endOf_cons, endOf_cons, ← ih _ h.tail]
  congr 1
  rw [ovr_plain (by omega) (by omega), ovr_plain (by omega) (by omega)]
  (repeat' split) <;> omega
theorem beside_low {a b : Nat} (hab : a + b ≤ 900) (l m : List Int) (hl : OKr a l) (hm : OKr b m) (i : Nat) (hi : i < a) : endOf (i : Int) (besideR (a : Int) l m) = endOf (i : Int) l := by
 rw [besideR_val hab l m hm, end_app]
 have hb := endOf_lt l (n := a) (by omega) (i : Int) (by omega) (by omega) hl
 refine end_stay _ _ fun q hq => ?_
 obtain ⟨r, hr, rfl⟩ := List.mem_map.1 hq
 have := hm r hr
 omega
theorem beside_high {a b : Nat} (hab : a + b ≤ 900) (l m : List Int) (hl : OKr a l) (hm : OKr b m) (i : Nat) (hi : i < b) : endOf ((a + i : Nat) : Int) (besideR (a : Int) l m) = (a : Int) + endOf (i : Int) m := by
 rw [besideR_val hab l m hm, end_app]
 have e : endOf ((a + i : Nat) : Int) l = ((a + i : Nat) : Int) := end_stay _ _ fun q hq => by have := hl q hq; omega
 rw [e]
 exact end_shift a b hab m (i : Int) hm
theorem beside_split {a b : Nat} (ha : 1 ≤ a) (hab : a + b ≤ 900) (l m : List Int) (hl : OKr a l) (hm : OKr b m) : ¬ ((a : Int) - 1) ∈ besideR (a : Int) l m := by
 rw [besideR_val hab l m hm, List.mem_append]
 rintro (h | h)
 ·have := hl _ h; omega
 ·obtain ⟨r, hr, e⟩ := List.mem_map.1 h
  have := hm r hr; omega
theorem dbl_val {r : Int} (h0 : 0 ≤ r) (h1 : r ≤ 400) : dbl r = [2 * r + 1, 2 * r, 2 * r + 2, 2 * r + 1] := by
 unfold dbl
 have e : wrap64 (2 * r) = 2 * r := wrap_in (by omega) (by omega)
 rw [e, wrap_in (by omega) (by omega), wrap_in (by omega) (by omega)]
theorem dbl_one {r i : Int} (h0 : 0 ≤ r) (h1 : r ≤ 400) : endOf (2 * i) (dbl r) = 2 * ovr i r ∧ endOf (2 * i + 1) (dbl r) = 2 * ovr i r + 1 := by
 rw [dbl_val h0 h1]
 simp only [endOf, List.foldl_cons, List.foldl_nil]
 have p : ∀ w q : Int, 0 ≤ q → q ≤ 1000 → ovr w q = if w = q then q + 1 else if w = q + 1 then q else w := fun w q a b => ovr_plain a b
 rcases Int.lt_trichotomy i r with c | c | c
 ·rw [ovr_stay (w := i) h0 (by omega) (by omega) (by omega)]
  rw [ovr_stay (w := 2 * i) (r := 2 * r + 1) (by omega) (by omega) (by omega) (by omega), ovr_stay (w := 2 * i) (r := 2 * r) (by omega) (by omega) (by omega) (by omega), ovr_stay (w := 2 * i) (r := 2 * r + 2) (by omega) (by omega) (by omega) (by omega), ovr_stay (w := 2 * i) (r := 2 * r + 1) (by omega) (by omega) (by omega) (by omega)]
  rw [ovr_stay (w := 2 * i + 1) (r := 2 * r + 1) (by omega) (by omega) (by omega) (by omega), ovr_stay (w := 2 * i + 1) (r := 2 * r) (by omega) (by omega) (by omega) (by omega), ovr_stay (w := 2 * i + 1) (r := 2 * r + 2) (by omega) (by omega) (by omega) (by omega), ovr_stay (w := 2 * i + 1) (r := 2 * r + 1) (by omega) (by omega) (by omega) (by omega)]
  exact ⟨rfl, rfl⟩
 ·subst c
  rw [p i i h0 (by omega), if_pos rfl]
  rw [ovr_stay (w := 2 * i) (r := 2 * i + 1) (by omega) (by omega) (by omega) (by omega), p (2 * i) (2 * i) (by omega) (by omega), if_pos rfl, ovr_stay (w := 2 * i + 1) (r := 2 * i + 2) (by omega) (by omega) (by omega) (by omega), p (2 * i + 1) (2 * i + 1) (by omega) (by omega), if_pos rfl]
  rw [ovr_stay (w := 2 * i + 1 + 1) (r := 2 * i) (by omega) (by omega) (by omega) (by omega), p (2 * i + 1 + 1) (2 * i + 2) (by omega) (by omega), if_pos (by omega), ovr_stay (w := 2 * i + 2 + 1) (r := 2 * i + 1) (by omega) (by omega) (by omega) (by omega)]
  omega
 ·by_cases d : i = r + 1
  ·subst d
   rw [p (r + 1) r h0 (by omega), if_neg (by omega), if_pos rfl]
   rw [p (2 * (r + 1)) (2 * r + 1) (by omega) (by omega), if_neg (by omega), if_pos (by omega), p (2 * r + 1) (2 * r) (by omega) (by omega), if_neg (by omega), if_pos (by omega), ovr_stay (w := 2 * r) (r := 2 * r + 2) (by omega) (by omega) (by omega) (by omega), ovr_stay (w := 2 * r) (r := 2 * r + 1) (by omega) (by omega) (by omega) (by omega)]
   rw [ovr_stay (w := 2 * (r + 1) + 1) (r := 2 * r + 1) (by omega) (by omega) (by omega) (by omega), ovr_stay (w := 2 * (r + 1) + 1) (r := 2 * r) (by omega) (by omega) (by omega) (by omega), p (2 * (r + 1) + 1) (2 * r + 2) (by omega) (by omega), if_neg (by omega), if_pos (by omega), p (2 * r + 2) (2 * r + 1) (by omega) (by omega), if_neg (by omega), if_pos (by omega)]
   omega
  ·rw [ovr_stay (w := i) h0 (by omega) (by omega) (by omega)]
   rw [ovr_stay (w := 2 * i) (r := 2 * r + 1) (by omega) (by omega) (by omega) (by omega), ovr_stay (w := 2 * i) (r := 2 * r) (by omega) (by omega) (by omega) (by omega), ovr_stay (w := 2 * i) (r := 2 * r + 2) (by omega) (by omega) (by omega) (by omega), ovr_stay (w := 2 * i) (r := 2 * r + 1) (by omega) (by omega) (by omega) (by omega)]
   rw [ovr_stay (w := 2 * i + 1) (r := 2 * r + 1) (by omega) (by omega) (by omega) (by omega), ovr_stay (w := 2 * i + 1) (r := 2 * r) (by omega) (by omega) (by omega) (by omega), ovr_stay (w := 2 * i + 1) (r := 2 * r + 2) (by omega) (by omega) (by omega) (by omega), ovr_stay (w := 2 * i + 1) (r := 2 * r + 1) (by omega) (by omega) (by omega) (by omega)]
   exact ⟨rfl, rfl⟩
theorem dbl_end {n : Nat} (hn : n ≤ 400) (l : List Int) : ∀ (i : Int), OKr n l → endOf (2 * i) (l.flatMap dbl) = 2 * endOf i l ∧ endOf (2 * i + 1) (l.flatMap dbl) = 2 * endOf i l + 1 := by
 induction l with
 | nil => intro i _; exact ⟨rfl, rfl⟩
 | cons r l ih =>
  intro i h
  have hr := h r (List.mem_cons_self ..)
  have h1 := dbl_one (i := i) hr.1 (by omega)
  have h2 := ih (ovr i r) h.tail
  rw [List.flatMap_cons, end_app, end_app, h1.1, h1.2, endOf_cons]
  exact h2
def riseAt (l : List Int) (b : Int) (i : Nat) : Bool := inB (rd l i) 0 (wrap64 (b - 1)) && (decide (i = 0) || decide (rd l ((i : Int) - 1) < rd l i))
def risingB (l : List Int) (b : Int) : Bool := (List.range' 0 l.length).all (riseAt l b)
theorem rising_in {l : List Int} {n : Nat} (h : risingB l (n : Int) = true) (hn : 1 ≤ n) (hn8 : n ≤ 1000) (i : Nat) (hi : i < l.length) : 0 ≤ rd l (i : Int) ∧ rd l (i : Int) < n := by
 have h1 := (List.all_eq_true.1 h) i (by simp [hi])
 unfold riseAt at h1
 rw [Bool.and_eq_true] at h1
 have h2 := (inB_iff _ _ _).1 h1.1
 rw [wrap_in (by omega) (by omega)] at h2
 omega
theorem rising_lt {l : List Int} {n : Nat} (h : risingB l (n : Int) = true) (i : Nat) (hi : i + 1 < l.length) : rd l (i : Int) < rd l ((i + 1 : Nat) : Int) := by
 have h1 := (List.all_eq_true.1 h) (i + 1) (by simp [hi])
 unfold riseAt at h1
 rw [Bool.and_eq_true] at h1
 have h2 := h1.2
 have e : ((i + 1 : Nat) : Int) - 1 = (i : Int) := by omega
 rw [e] at h2
 simpa using h2
theorem mem_rd {l : List Int} {x : Int} (h : x ∈ l) : ∃ i, i < l.length ∧ rd l (i : Int) = x := by
 obtain ⟨i, hi, e⟩ := List.mem_iff_getElem.1 h
 exact ⟨i, hi, by rw [rd_nat l i hi]; exact e⟩
theorem rd_mem {l : List Int} (i : Nat) (hi : i < l.length) : rd l (i : Int) ∈ l := by
 rw [rd_nat l i hi]; exact List.getElem_mem hi
theorem mrRising_ev (l : List Int) (b : Int) (hn : l.length ≤ 1048576) : Ev (fun k => spec_mrRising.f k l b) (risingB l b) := by
 unfold spec_mrRising.f
 refine Ev.bind (l1All_ev l 0 _ (by omega)) ?_
 have all_in : (l.all fun x => inB x 0 (wrap64 (b - 1))) = (List.range' 0 l.length).all fun i => inB (rd l i) 0 (wrap64 (b - 1)) := by
  rw [Bool.eq_iff_iff, List.all_eq_true, List.all_eq_true]
  constructor
  ·intro h i hi
   have hi' : i < l.length := by simpa using hi
   rw [rd_nat l i hi']; exact h _ (List.getElem_mem hi')
  ·intro h x hx
   obtain ⟨i, hi, rfl⟩ := List.getElem_of_mem hx
   have := h i (by simpa using hi)
   rwa [rd_nat l i hi] at this
 refine Ev.iteb (fun h => ?_) (fun h => ?_)
 ·rw [all_in] at h
  have e0 : risingB l b = (List.range' 0 l.length).all fun i => (decide (i = 0) || decide (rd l ((i : Int) - 1) < rd l i)) := by
   unfold risingB riseAt
   rw [Bool.eq_iff_iff, List.all_eq_true, List.all_eq_true]
   have h' := List.all_eq_true.1 h
   exact ⟨fun g i hi => by have := g i hi; rw [h' i hi, Bool.true_and] at this; exact this, fun g i hi => by rw [h' i hi, Bool.true_and]; exact g i hi⟩
  rw [e0]
  by_cases hz : l.length = 0
  ·have : l = [] := List.eq_nil_of_length_eq_zero hz
   subst this
   refine Ev.succ (Ev.ret fun k => ?_)
   rw [spec_mrRising.l0, if_neg (by simp)]; rfl
  ·have e1 : (List.range' 0 l.length).all (fun i => (decide (i = 0) || decide (rd l ((i : Int) - 1) < rd l i))) = (List.range' 1 (l.length - 1)).all (fun i => (decide (i = 0) || decide (rd l ((i : Int) - 1) < rd l i))) := by
    have : l.length = (l.length - 1) + 1 := by omega
    rw [this, List.range'_succ, List.all_cons]
    simp
   rw [e1]
   have main : ∀ d j, 1 ≤ j → j ≤ l.length → l.length - j = d → Ev (fun k => spec_mrRising.l0 k l (j : Int)) ((List.range' j (l.length - j)).all fun i => (decide (i = 0) || decide (rd l ((i : Int) - 1) < rd l i))) := by
    intro d
    induction d with
    | zero =>
     intro j h1 h2 hd
     refine Ev.succ (Ev.ret fun k => ?_)
     rw [spec_mrRising.l0, if_neg (by omega), hd]; rfl
    | succ d ih =>
     intro j h1 h2 hd
     refine Ev.succ ?_
     have g1 : (j : Int) < (l.length : Int) := by omega
     have gw : wrap64 ((j : Int) - 1) = (j : Int) - 1 := wrap_in (by omega) (by omega)
     have g2 : (0 : Int) ≤ (j : Int) - 1 := by omega
     have g3 : (j : Int) - 1 < (l.length : Int) := by omega
     have g0 : (0 : Int) ≤ (j : Int) := by omega
     have e : l.length - j = (l.length - (j + 1)) + 1 := by omega
     simp only [spec_mrRising.l0, g1, gw, g2, g3, g0, if_true, wrap_nat j l.length (by omega) (by omega)]
     rw [e, List.range'_succ, List.all_cons]
     have hj0 : decide (j = 0) = false := by simp; omega
     rw [hj0, Bool.false_or]
     refine Ev.ite (fun h => ?_) (fun h => ?_)
     ·have : decide (rd l ((j : Int) - 1) < rd l j) = false := by simp; omega
      rw [this]; exact Ev.now _
     ·have : decide (rd l ((j : Int) - 1) < rd l j) = true := by simp; omega
      rw [this]; exact ih (j + 1) (by omega) (by omega) (by omega)
   exact main (l.length - 1) 1 (by omega) (by omega) rfl
 ·have : risingB l b = false := by
   rw [all_in] at h
   unfold risingB
   rw [Bool.eq_false_iff] at h ⊢
   intro h2
   apply h
   rw [List.all_eq_true] at h2 ⊢
   intro i hi
   have := h2 i hi
   unfold riseAt at this
   simp at this
   exact this.1
  rw [this]; exact Ev.now _
theorem isRising_ev (l : List Int) (b : Int) (hn : l.length ≤ 1048576) : Ev (fun k => impl_isRising.f k l b) (risingB l b) := by
 have key := Ev.upto (L := fun k j (_ : Unit) => impl_isRising.l0 k l b l (l.length : Int) (j : Int)) (R := fun j _ => (List.range' j (l.length - j)).all (riseAt l b)) (n := l.length)
  (fun _ => by
   refine Ev.succ (Ev.ret fun k => ?_)
   rw [impl_isRising.l0, if_neg (by omega), Nat.sub_self]; rfl)
  (fun j _ hj ih => by
   refine Ev.succ ?_
   have h1 : (j : Int) < (l.length : Int) := by omega
   have h0 : (0 : Int) ≤ (j : Int) := by omega
   have e : l.length - j = (l.length - (j + 1)) + 1 := by omega
   simp only [impl_isRising.l0, h1, h0, if_true, btw_f, Option.bind_some, wrap_nat j l.length hj (by omega)]
   rw [e, List.range'_succ, List.all_cons, riseAt]
   refine Ev.iteb (fun h => ?_) (fun h => ?_)
   ·rw [h, Bool.true_and]
    refine Ev.ite (fun hp => ?_) (fun hp => ?_)
    ·have gw : wrap64 ((j : Int) - 1) = (j : Int) - 1 := wrap_in (by omega) (by omega)
     have g2 : (0 : Int) ≤ (j : Int) - 1 := by omega
     have g3 : (j : Int) - 1 < (l.length : Int) := by omega
     have hj0 : decide (j = 0) = false := by simp; omega
     simp only [gw, g2, g3, if_true]
     rw [hj0, Bool.false_or]
     refine Ev.ite (fun h => ?_) (fun h => ?_)
     ·have : decide (rd l ((j : Int) - 1) < rd l j) = false := by simp; omega
      rw [this]; exact Ev.now _
     ·have : decide (rd l ((j : Int) - 1) < rd l j) = true := by simp; omega
      rw [this]; exact ih ()
    ·have hj0 : decide (j = 0) = true := by simp; omega
     rw [hj0, Bool.true_or]; exact ih ()
   ·rw [h]; exact Ev.now _)
 exact key 0 () (Nat.zero_le _)
theorem Index_ev (l : List Int) (x : Int) (hn : l.length ≤ 9223372036854775807) : ∃ r, Ev (fun k => slices_Index_int_int.f k l x) r ∧ (decide (r ≥ 0)) = decide (x ∈ l) := by
 have key : ∀ d j, j ≤ l.length → l.length - j = d → ∃ r, Ev (fun k => slices_Index_int_int.l0 k l x (l.length : Int) (j : Int)) r ∧ (decide (r ≥ 0)) = decide (x ∈ l.drop j) := by
  intro d
  induction d with
  | zero =>
   intro j h1 hd
   refine ⟨-1, Ev.succ (Ev.ret fun k => ?_), ?_⟩
   ·rw [slices_Index_int_int.l0, if_neg (by omega)]
   ·rw [List.drop_eq_nil_of_le (by omega)]; simp
  | succ d ih =>
   intro j h1 hd
   have hj : j < l.length := by omega
   have h1 : (j : Int) < (l.length : Int) := by omega
   have h0 : (0 : Int) ≤ (j : Int) := by omega
   rw [List.drop_eq_getElem_cons hj]
   by_cases h : x = l[j]
   ·refine ⟨j, Ev.succ (Ev.ret fun k => ?_), ?_⟩
    ·rw [slices_Index_int_int.l0, if_pos h1, if_pos h0, if_pos h1, rd_nat l j hj, if_pos h]
    ·rw [decide_eq_decide, List.mem_cons]; exact ⟨fun _ => .inl h, fun _ => by omega⟩
   ·obtain ⟨r, hr, e⟩ := ih (j + 1) (by omega) (by omega)
    refine ⟨r, Ev.succ ?_, ?_⟩
    ·simp only [slices_Index_int_int.l0, h1, h0, if_true, rd_nat l j hj, h, if_false, wrap_nat j _ hj hn]
     exact hr
    ·rw [e, decide_eq_decide, List.mem_cons]; exact ⟨fun m => .inr m, fun m => m.resolve_left h⟩
 obtain ⟨r, hr, e⟩ := key l.length 0 (Nat.zero_le _) (by omega)
 rw [List.drop_zero] at e
 exact ⟨r, hr, e⟩
theorem Contains_ev (l : List Int) (x : Int) (hn : l.length ≤ 9223372036854775807) : Ev (fun k => slices_Contains_int_int.f k l x) (decide (x ∈ l)) := by
 obtain ⟨r, hr, e⟩ := Index_ev l x hn
 unfold slices_Contains_int_int.f
 exact Ev.bind hr (Ev.eq (Ev.now _) e)
theorem laOver_f (w r : Int) : spec_laOver.f w r = some (ovr w r) := by
 unfold spec_laOver.f ovr; split
 ·rfl
 ·split <;> rfl
theorem mrTake_ev (l : List Int) (s : Int) (hl : l.length ≤ 1000000) : Ev (fun k => spec_mrTake.f k l s) (tk s l) := by
 have key := Ev.inv (σ := Int × List Int) (L := fun k j q => spec_mrTake.l0 k q.1 q.2 l (l.length : Int) (j : Int)) (r := tk s l) (n := l.length)
  (Inv := fun j q => q.2 ++ tk q.1 (l.drop j) = tk s l ∧ q.2.length ≤ j)
  (fun q hq => by
   obtain ⟨q1, q2⟩ := q
   obtain ⟨hq, _⟩ := hq
   refine Ev.succ (Ev.ret fun k => ?_)
   rw [spec_mrTake.l0, if_neg (by omega), ← hq, List.drop_length]; simp [tk])
  (fun j q hj hq ih => by
   obtain ⟨q1, q2⟩ := q
   obtain ⟨hq, hlen⟩ := hq
   refine Ev.succ ?_
   have g1 : (j : Int) < (l.length : Int) := by omega
   have g0 : (0 : Int) ≤ (j : Int) := by omega
   have g2 : q2.length < 17592186044416 := by simp only at hlen; omega
   rw [List.drop_eq_getElem_cons hj, tk] at hq
   simp only at hq hlen
   simp only [spec_mrTake.l0, g1, g0, g2, if_true, rd_nat l j hj, laOver_f, Option.bind_some, wrap_nat j _ hj (by omega)]
   refine Ev.ite (fun h => ?_) (fun h => ?_)
   ·rw [if_pos h] at hq
    simp only [h]
    refine Ev.ite (fun h3 => ?_) (fun h3 => ?_)
    ·rw [if_pos h3] at hq
     exact ih (q1, q2 ++ [wrap64 (l[j] - 1)]) ⟨by simpa using hq, by simp; omega⟩
    ·rw [if_neg h3] at hq
     exact ih (q1, q2 ++ [l[j]]) ⟨by simpa using hq, by simp; omega⟩
   ·rw [if_neg h] at hq
    exact ih (ovr q1 l[j], q2) ⟨hq, by simp only; omega⟩)
 exact key 0 (s, []) (Nat.zero_le _) ⟨by simp, by simp⟩
theorem over_f (w r : Int) : impl_over.f w r = some (ovr w r) := by
 unfold impl_over.f ovr; split
 ·rfl
 ·split <;> rfl
theorem takeStart_ev (a : Int) (l : List Int) (s : Int) (hl : l.length ≤ 1000000) : Ev (fun k => impl_takeStart.f k a l s) (wrap64 (a - 1), tk s l) := by
 have key := Ev.inv (σ := Int × List Int) (L := fun k j q => impl_takeStart.l0 k q.1 l (l.length : Int) (j : Int) (wrap64 (a - 1)) q.2) (r := (wrap64 (a - 1), tk s l)) (n := l.length)
  (Inv := fun j q => q.2 ++ tk q.1 (l.drop j) = tk s l ∧ q.2.length ≤ j)
  (fun q hq => by
   obtain ⟨q1, q2⟩ := q
   obtain ⟨hq, _⟩ := hq
   refine Ev.succ (Ev.ret fun k => ?_)
   rw [impl_takeStart.l0, if_neg (by omega), ← hq, List.drop_length]; simp [tk])
  (fun j q hj hq ih => by
   obtain ⟨q1, q2⟩ := q
   obtain ⟨hq, hlen⟩ := hq
   refine Ev.succ ?_
   have g1 : (j : Int) < (l.length : Int) := by omega
   have g0 : (0 : Int) ≤ (j : Int) := by omega
   have g2 : q2.length < 17592186044416 := by simp only at hlen; omega
   rw [List.drop_eq_getElem_cons hj, tk] at hq
   simp only at hq hlen
   simp only [impl_takeStart.l0, g1, g0, g2, if_true, rd_nat l j hj, over_f, Option.bind_some, wrap_nat j _ hj (by omega)]
   refine Ev.ite (fun h => ?_) (fun h => ?_)
   ·rw [if_pos h] at hq
    refine Ev.ite (fun h3 => ?_) (fun h3 => ?_)
    ·rw [if_pos h3] at hq
     exact ih (q1, q2 ++ [wrap64 (l[j] - 1)]) ⟨by simpa using hq, by simp; omega⟩
    ·rw [if_neg h3] at hq
     exact ih (q1, q2 ++ [l[j]]) ⟨by simpa using hq, by simp; omega⟩
   ·rw [if_neg h] at hq
    exact ih (ovr q1 l[j], q2) ⟨hq, by simp only; omega⟩)
 exact key 0 (s, []) (Nat.zero_le _) ⟨by simp, by simp⟩
def keepL (s : List Int) : Nat → List Int → List Int
 | 0, l => l
 | w + 1, l => keepL s w (if (w : Int) ∈ s then l else tk (w : Int) l)
theorem keepL_length (s : List Int) (w : Nat) : ∀ l, (keepL s w l).length ≤ l.length := by
 induction w with
 | zero => intro l; simp [keepL]
 | succ w ih =>
  intro l
  have h2 := tk_length l (w : Int)
  rw [keepL]
  by_cases c : (w : Int) ∈ s
  ·rw [if_pos c]; exact ih l
  ·rw [if_neg c]; exact Nat.le_trans (ih _) h2
theorem keep_spec (s : List Int) (hs : s.length ≤ 1048576) (w : Nat) (hw : w ≤ 1000) : ∀ (l : List Int), l.length ≤ 1000000 → Ev (fun k => spec_KeepStarts.l0 k s l ((w : Int) - 1)) ((s.length : Int), keepL s w l, true) := by
 induction w with
 | zero =>
  intro l _
  refine Ev.succ ?_
  have g : ¬ ((0 : Nat) : Int) - 1 ≥ 0 := by omega
  simp only [spec_KeepStarts.l0, g, if_false]
  exact Ev.now _
 | succ w ih =>
  intro l hl
  refine Ev.succ ?_
  have e : ((w + 1 : Nat) : Int) - 1 = (w : Int) := by omega
  rw [e]
  have g : (w : Int) ≥ 0 := by omega
  have gw : wrap64 ((w : Int) - 1) = (w : Int) - 1 := wrap_in (by omega) (by omega)
  simp only [spec_KeepStarts.l0, g, if_true, gw]
  refine Ev.bind (l1Has_ev s (w : Int) (by omega)) ?_
  refine Ev.iteb (fun h => ?_) (fun h => ?_)
  ·rw [keepL, if_pos (by simpa using h)]; exact ih (by omega) l hl
  ·rw [keepL, if_neg (by simpa using h)]
   exact Ev.bind (mrTake_ev l (w : Int) hl) (ih (by omega) _ (by have := tk_length l (w : Int); omega))
theorem keep_impl (s : List Int) (hs : s.length ≤ 1048576) (n : Nat) (hn : 1 ≤ n) (hn8 : n ≤ 1000) (hr : risingB s (n : Int) = true) (w : Nat) (hw : w ≤ 1000) : ∀ (l : List Int) (m : Nat), l.length ≤ 1000000 → m ≤ s.length → (∀ i : Nat, i < m → rd s (i : Int) < (w : Int)) → (∀ i : Nat, m ≤ i → i < s.length → (w : Int) ≤ rd s (i : Int)) →
  Ev (fun k => impl_KeepStarts.l0 k s ((w : Int) - 1) ((w + (s.length - m) : Nat) : Int) l) ((s.length : Int), keepL s w l, true) := by
 induction w with
 | zero =>
  intro l m _ hm h1 h2
  refine Ev.succ ?_
  have g : ¬ ((0 : Nat) : Int) - 1 ≥ 0 := by omega
  have hm0 : m = 0 := by
   rcases Nat.eq_zero_or_pos m with h | h
   ·exact h
   ·have := h1 0 h; have := rising_in hr hn hn8 0 (by omega); omega
  subst hm0
  simp only [impl_KeepStarts.l0, g, if_false]
  refine Ev.eq (Ev.now _) ?_
  simp [keepL]
 | succ w ih =>
  intro l m hl hm h1 h2
  refine Ev.succ ?_
  have e : ((w + 1 : Nat) : Int) - 1 = (w : Int) := by omega
  rw [e]
  have g : (w : Int) ≥ 0 := by omega
  have gw : wrap64 ((w : Int) - 1) = (w : Int) - 1 := wrap_in (by omega) (by omega)
  simp only [impl_KeepStarts.l0, g, if_true, gw]
  refine Ev.bind (Contains_ev s (w : Int) (by omega)) ?_
  refine Ev.iteb (fun h => ?_) (fun h => ?_)
  ·have h' : (w : Int) ∈ s := by simpa using h
   rw [keepL, if_pos h']
   obtain ⟨i, hi, e1⟩ := mem_rd h'
   have him : i < m := by
    rcases Nat.lt_or_ge i m with h3 | h3
    ·exact h3
    ·have := h2 i h3 hi; omega
   have hm1 : m = i + 1 := by
    rcases Nat.lt_or_ge (i + 1) m with h3 | h3
    ·have := h1 (i + 1) h3; have := rising_lt hr i (by omega); omega
    ·omega
   have e2 : w + 1 + (s.length - m) = w + (s.length - i) := by omega
   rw [e2]
   refine ih (by omega) l i hl (by omega) (fun j hj => ?_) (fun j hj hj2 => ?_)
   ·have := rising_lt hr j (by omega)
    have := h1 (j + 1) (by omega)
    omega
   ·rcases Nat.eq_or_lt_of_le hj with h3 | h3
    ·subst h3; omega
    ·have := h2 j (by omega) hj2; omega
  ·have h' : (w : Int) ∉ s := by simpa using h
   rw [keepL, if_neg h']
   refine Ev.bind (takeStart_ev _ l (w : Int) hl) ?_
   have e2 : wrap64 (((w + 1 + (s.length - m) : Nat) : Int) - 1) = ((w + (s.length - m) : Nat) : Int) := by unfold wrap64; omega
   simp only [e2]
   refine ih (by omega) _ m (by have := tk_length l (w : Int); omega) hm (fun j hj => ?_) (fun j hj hj2 => ?_)
   ·have h3 := h1 j hj
    have h4 : rd s (j : Int) ≠ (w : Int) := fun e3 => h' (e3 ▸ rd_mem j (by omega))
    omega
   ·have := h2 j hj hj2; omega
def keepV (a : Int) (l s : List Int) : Int × List Int × Bool := if isLadderB a l = true ∧ ¬ (s.length : Int) < 2 ∧ risingB s a = true then ((s.length : Int), keepL s a.toNat l, true) else (0, [], false)
theorem KeepStarts_vals (a : Int) (l s : List Int) (hs : s.length ≤ 1048576) : Ev (fun k => spec_KeepStarts.f k a l s) (keepV a l s) ∧ Ev (fun k => impl_KeepStarts.f k a l s) (keepV a l s) ∧ (keepV a l s).2.1.length ≤ 60 := by
 have fs : Ev (fun k => spec_KeepStarts.j0 k s true a l) (0, [], false) := Ev.succ (Ev.ret fun k => by rw [spec_KeepStarts.j0]; rfl)
 have fi : Ev (fun k => impl_KeepStarts.j0 k s true a l) (0, [], false) := Ev.succ (Ev.ret fun k => by rw [impl_KeepStarts.j0]; rfl)
 by_cases h : isLadderB a l = true
 ·have hl := (isLadderB_iff a l).1 h
  obtain ⟨n, rfl⟩ : ∃ n : Nat, a = n := ⟨a.toNat, by omega⟩
  by_cases h2 : (s.length : Int) < 2
  ·rw [show keepV (n : Int) l s = (0, [], false) from if_neg (fun hh => hh.2.1 h2)]
   refine ⟨?_, ?_, by simp⟩
   ·unfold spec_KeepStarts.f
    refine Ev.bind (laGood_ev _ l) ?_
    simp only [h, h2, if_true]; exact fs
   ·unfold impl_KeepStarts.f impl_isLadder.f
    simp only [Option.bind_some, h, h2, if_true]; exact fi
  ·cases h3 : risingB s (n : Int) with
   | false =>
    rw [show keepV (n : Int) l s = (0, [], false) from if_neg (fun hh => by rw [h3] at hh; cases hh.2.2)]
    refine ⟨?_, ?_, by simp⟩
    ·unfold spec_KeepStarts.f
     refine Ev.bind (laGood_ev _ l) ?_
     simp only [h, h2, if_true, if_false]
     refine Ev.bind (mrRising_ev s _ hs) ?_
     rw [h3]; exact fs
    ·unfold impl_KeepStarts.f impl_isLadder.f
     simp only [Option.bind_some, h, h2, if_true, if_false]
     refine Ev.bind (isRising_ev s _ hs) ?_
     rw [h3]; exact fi
   | true =>
    have gw : wrap64 ((n : Int) - 1) = (n : Int) - 1 := wrap_in (by omega) (by omega)
    rw [show keepV (n : Int) l s = ((s.length : Int), keepL s n l, true) from if_pos ⟨h, h2, h3⟩]
    refine ⟨?_, ?_, by have := keepL_length s n l; simp only; omega⟩
    ·unfold spec_KeepStarts.f
     refine Ev.bind (laGood_ev _ l) ?_
     simp only [h, h2, if_true, if_false]
     refine Ev.bind (mrRising_ev s _ hs) ?_
     rw [h3]
     refine Ev.succ ?_
     have g : ([] : List Int).length + l.length < 17592186044416 := by simp; omega
     simp only [spec_KeepStarts.j0, Bool.not_true, Bool.false_eq_true, if_false, spec_l1Own.f, Option.bind_some, g, if_true, gw, List.nil_append]
     exact keep_spec s hs n (by omega) l (by omega)
    ·unfold impl_KeepStarts.f impl_isLadder.f
     simp only [Option.bind_some, h, h2, if_true, if_false]
     refine Ev.bind (isRising_ev s _ hs) ?_
     rw [h3]
     refine Ev.succ ?_
     have g : l.length ≤ 17592186044416 := by omega
     simp only [impl_KeepStarts.j0, Bool.not_true, Bool.false_eq_true, if_false, slices_Clone_int_int.f, Option.bind_some, g, if_true, gw]
     have key := keep_impl s hs n (by omega) (by omega) h3 n (by omega) l s.length (by omega) (Nat.le_refl _) (fun i hi => (rising_in h3 (by omega) (by omega) i hi).2) (fun i h4 h5 => absurd h5 (by omega))
     rw [Nat.sub_self, Nat.add_zero] at key
     exact key
 ·have h' : isLadderB a l = false := by simpa using h
  rw [show keepV a l s = (0, [], false) from if_neg (fun hh => h hh.1)]
  refine ⟨?_, ?_, by simp⟩
  ·unfold spec_KeepStarts.f
   refine Ev.bind (laGood_ev _ l) ?_
   simp only [h', Bool.false_eq_true, if_false]; exact fs
  ·unfold impl_KeepStarts.f impl_isLadder.f
   simp only [Option.bind_some, h', Bool.false_eq_true, if_false]; exact fi
/-- how many numbers below n are so -/
def cR (n : Nat) (P : Nat → Bool) : Nat := (List.range n).countP P
theorem cR_zero (P : Nat → Bool) : cR 0 P = 0 := rfl
theorem cR_succ (n : Nat) (P : Nat → Bool) : cR (n + 1) P = cR n P + (if P n = true then 1 else 0) := by
 unfold cR; rw [List.range_succ, List.countP_append, List.countP_cons]; simp
theorem cR_congr {n : Nat} {P Q : Nat → Bool} (h : ∀ y, y < n → P y = Q y) : cR n P = cR n Q := by
 induction n with
 | zero => rfl
 | succ n ih => rw [cR_succ, cR_succ, ih fun y hy => h y (by omega), h n (by omega)]
theorem cR_mono {n : Nat} {P Q : Nat → Bool} (h : ∀ y, y < n → P y = true → Q y = true) : cR n P ≤ cR n Q := by
 induction n with
 | zero => exact Nat.le_refl _
 | succ n ih =>
  have := ih fun y hy => h y (by omega)
  have h2 := h n (by omega)
  rw [cR_succ, cR_succ]
  by_cases c : P n = true
  ·rw [if_pos c, if_pos (h2 c)]; omega
  ·rw [if_neg c]; omega
theorem cR_lt {n : Nat} {P Q : Nat → Bool} (h : ∀ y, y < n → P y = true → Q y = true) (x : Nat) (hx : x < n) (h1 : P x = false) (h2 : Q x = true) : cR n P < cR n Q := by
 induction n with
 | zero => omega
 | succ n ih =>
  rw [cR_succ, cR_succ]
  by_cases e : x = n
  ·subst e
   have := cR_mono (n := x) (P := P) (Q := Q) fun y hy => h y (by omega)
   rw [h1, h2]; simp; omega
  ·have := ih (fun y hy => h y (by omega)) (by omega)
   have h3 := h n (by omega)
   by_cases c : P n = true
   ·rw [if_pos c, if_pos (h3 c)]; omega
   ·rw [if_neg c]; omega
/-- one number more -/
theorem cR_one {n : Nat} {P Q R : Nat → Bool} (w : Nat) (hw : w < n) (h : ∀ y, y < n → y ≠ w → P y = Q y) (h1 : Q w = false) (h2 : P w = R w) : cR n P = cR n Q + (if R w = true then 1 else 0) := by
 induction n with
 | zero => omega
 | succ n ih =>
  rw [cR_succ, cR_succ]
  by_cases e : w = n
  ·subst e
   rw [cR_congr (P := P) (Q := Q) fun y hy => h y (by omega) (by omega), h1, h2]
   simp
  ·rw [ih (by omega) fun y hy => h y (by omega), h n (by omega) (by omega)]
   omega
theorem cR_below (n v : Nat) (h : v ≤ n) : cR n (fun y => decide (y < v)) = v := by
 induction n with
 | zero => rw [cR_zero]; omega
 | succ n ih =>
  rw [cR_succ]
  by_cases e : v = n + 1
  ·subst e
   have : cR n (fun y => decide (y < n + 1)) = cR n (fun y => decide (y < n)) := cR_congr fun y hy => by simp; omega
   rw [this]
   have h2 : ∀ m, cR m (fun y => decide (y < n)) = min m n := by
    intro m
    induction m with
    | zero => rw [cR_zero]; omega
    | succ m ihm => rw [cR_succ, ihm]; by_cases c : m < n <;> simp [c] <;> omega
   rw [h2]; simp
  ·rw [ih (by omega)]; simp; omega
/-- the places below n, gone over one rung, are the same places -/
theorem cR_swap (n r : Nat) (hr : r + 1 < n) (hn : n ≤ 1000) (P : Int → Bool) : cR n (fun j => P (ovr (j : Int) (r : Int))) = cR n (fun j => P (j : Int)) := by
 have e0 : ∀ j : Nat, j ≠ r → j ≠ r + 1 → ovr (j : Int) (r : Int) = (j : Int) := by
  intro j h1 h2; rw [ovr_plain (by omega) (by omega), if_neg (by omega), if_neg (by omega)]
 have e1 : ovr (r : Int) (r : Int) = ((r + 1 : Nat) : Int) := by rw [ovr_plain (by omega) (by omega), if_pos rfl]; rfl
 have e2 : ovr ((r + 1 : Nat) : Int) (r : Int) = (r : Int) := by rw [ovr_plain (by omega) (by omega), if_neg (by omega), if_pos (by omega)]
 have low : ∀ m, m ≤ r → cR m (fun j => P (ovr (j : Int) (r : Int))) = cR m (fun j => P (j : Int)) := fun m hm => cR_congr fun j hj => by rw [e0 j (by omega) (by omega)]
 have mid : cR (r + 2) (fun j => P (ovr (j : Int) (r : Int))) = cR (r + 2) (fun j => P (j : Int)) := by
  rw [cR_succ, cR_succ, cR_succ, cR_succ, low r (Nat.le_refl _), e1, e2]; omega
 have high : ∀ d, cR (r + 2 + d) (fun j => P (ovr (j : Int) (r : Int))) = cR (r + 2 + d) (fun j => P (j : Int)) := by
  intro d
  induction d with
  | zero => exact mid
  | succ d ih => rw [← Nat.add_assoc, cR_succ, cR_succ, ih, e0 (r + 2 + d) (by omega) (by omega)]
 have := high (n - (r + 2))
 have e : r + 2 + (n - (r + 2)) = n := by omega
 rwa [e] at this
theorem cR_end {n : Nat} (hn : n ≤ 1000) (l : List Int) : ∀ (P : Int → Bool), OKr n l → cR n (fun j => P (endOf (j : Int) l)) = cR n (fun j => P (j : Int)) := by
 induction l with
 | nil => intro P _; rfl
 | cons r l ih =>
  intro P h
  have hr := h r (List.mem_cons_self ..)
  obtain ⟨q, rfl⟩ : ∃ q : Nat, r = q := ⟨r.toNat, by omega⟩
  have h1 := cR_swap n q (by omega) hn (fun e => P (endOf e l))
  have h2 := ih P h.tail
  simp only [endOf_cons]
  rw [h1]; exact h2
/-- so many come out to the left of one as there are places -/
theorem cR_ends {n : Nat} (hn : n ≤ 1000) (l : List Int) (h : OKr n l) (v : Int) (h0 : 0 ≤ v) (h1 : v ≤ n) : (cR n (fun j => decide (endOf (j : Int) l < v)) : Int) = v := by
 rw [cR_end hn l (fun e => decide (e < v)) h]
 obtain ⟨u, rfl⟩ : ∃ u : Nat, v = u := ⟨v.toNat, by omega⟩
 have : cR n (fun j => decide ((j : Int) < (u : Int))) = cR n (fun j => decide (j < u)) := cR_congr fun y _ => by simp
 rw [this, cR_below n u (by omega)]
/-- those that are still there when the starts from w on are dealt with -/
def inW (q : Nat → Bool) (w y : Nat) : Bool := decide (y < w) || q y
/-- the rank of x among those, by f -/
def rkW (n : Nat) (q : Nat → Bool) (w : Nat) (f : Nat → Int) (x : Nat) : Nat := cR n (fun y => inW q w y && decide (f y < f x))
theorem inW_yes {q : Nat → Bool} {w : Nat} (h : q w = true) (y : Nat) : inW q (w + 1) y = inW q w y := by
 unfold inW
 by_cases e : y = w
 ·subst e; simp [h]
 ·congr 1; simp; omega
theorem rkW_yes {n : Nat} {q : Nat → Bool} {w : Nat} (h : q w = true) (f : Nat → Int) (x : Nat) : rkW n q (w + 1) f x = rkW n q w f x := cR_congr fun y _ => by rw [inW_yes h]
theorem inW_no {q : Nat → Bool} {w : Nat} (h : q w = false) : inW q w w = false := by unfold inW; simp [h]
theorem inW_ne {q : Nat → Bool} {w y : Nat} (h : y ≠ w) : inW q (w + 1) y = inW q w y := by unfold inW; congr 1; simp; omega
theorem rkW_no {n : Nat} {q : Nat → Bool} {w : Nat} (hw : w < n) (h : q w = false) (f : Nat → Int) (x : Nat) : rkW n q (w + 1) f x = rkW n q w f x + (if f w < f x then 1 else 0) := by
 have := cR_one (n := n) (P := fun y => inW q (w + 1) y && decide (f y < f x)) (Q := fun y => inW q w y && decide (f y < f x)) (R := fun y => decide (f y < f x)) w hw (fun y _ hy => by simp only [inW_ne hy]) (by simp only [inW_no h, Bool.false_and]) (by simp [inW])
 unfold rkW
 rw [this]; simp
theorem rkW_le {n : Nat} {q : Nat → Bool} {w : Nat} {f : Nat → Int} {x z : Nat} (h : f x ≤ f z) : rkW n q w f x ≤ rkW n q w f z := cR_mono fun y _ hy => by
 simp only [Bool.and_eq_true, decide_eq_true_eq] at hy ⊢
 exact ⟨hy.1, by omega⟩
theorem rkW_shk {n : Nat} {q : Nat → Bool} {w : Nat} (hw : w < n) (h : q w = false) (f : Nat → Int) (x : Nat) : shk (rkW n q (w + 1) f x : Int) (rkW n q (w + 1) f w : Int) = (rkW n q w f x : Int) := by
 rw [rkW_no hw h, rkW_no hw h]
 unfold shk
 by_cases c : f w < f x
 ·have := rkW_le (n := n) (q := q) (w := w) (f := f) (x := w) (z := x) (by omega)
  rw [if_pos c, if_neg (c := f w < f w) (by omega), if_pos (by omega)]; omega
 ·have := rkW_le (n := n) (q := q) (w := w) (f := f) (x := x) (z := w) (by omega)
  rw [if_neg c, if_neg (c := f w < f w) (by omega), if_neg (by omega)]; omega
def nW (n : Nat) (q : Nat → Bool) (w : Nat) : Nat := cR n (fun y => inW q w y)
theorem nW_yes {n : Nat} {q : Nat → Bool} {w : Nat} (h : q w = true) : nW n q (w + 1) = nW n q w := cR_congr fun y _ => inW_yes h y
theorem nW_no {n : Nat} {q : Nat → Bool} {w : Nat} (hw : w < n) (h : q w = false) : nW n q (w + 1) = nW n q w + 1 := by
 have := cR_one (n := n) (P := fun y => inW q (w + 1) y) (Q := fun y => inW q w y) (R := fun _ => true) w hw (fun y _ hy => inW_ne hy) (inW_no h) (by simp [inW])
 unfold nW; rw [this]; simp
theorem nW_le (n : Nat) (q : Nat → Bool) (w : Nat) : nW n q w ≤ n := by
 unfold nW cR; have := List.countP_le_length (p := fun y => inW q w y) (l := List.range n); simpa using this
theorem nW_all (n : Nat) (q : Nat → Bool) : nW n q n = n := by
 have : nW n q n = cR n (fun y => decide (y < n)) := cR_congr fun y hy => by simp [inW, hy]
 rw [this, cR_below n n (Nat.le_refl _)]
theorem rkW_lt {n : Nat} {q : Nat → Bool} {w x : Nat} (f : Nat → Int) (hx : x < n) (h : inW q w x = true) : rkW n q w f x < nW n q w := cR_lt (fun y _ hy => by simp at hy; exact hy.1) x hx (by simp) h
def idF (y : Nat) : Int := (y : Int)
theorem rk_self {n : Nat} {q : Nat → Bool} {w : Nat} (hw : w < n) : rkW n q (w + 1) idF w = w := by
 have : rkW n q (w + 1) idF w = cR n (fun y => decide (y < w)) := cR_congr fun y _ => by
  unfold inW idF
  by_cases c : y < w
  ·have : y < w + 1 := by omega
   simp [c, this]
  ·have : ¬ ((y : Int) < (w : Int)) := by omega
   simp [c, this]
 rw [this, cR_below n w (by omega)]
/-- the ladder with the starts not in s taken out, from the last on -/
theorem keep_ends {n : Nat} (hn : n ≤ 1000) (s : List Int) (l : List Int) (hl : OKr n l) (w : Nat) : ∀ l' : List Int, w ≤ n → OKr (nW n (fun y => decide ((y : Int) ∈ s)) w) l' →
  (∀ x : Nat, x < n → inW (fun y => decide ((y : Int) ∈ s)) w x = true → endOf (rkW n (fun y => decide ((y : Int) ∈ s)) w idF x : Int) l' = (rkW n (fun y => decide ((y : Int) ∈ s)) w (fun y => endOf (y : Int) l) x : Int)) →
  OKr (nW n (fun y => decide ((y : Int) ∈ s)) 0) (keepL s w l') ∧ ∀ x : Nat, x < n → (x : Int) ∈ s → endOf (rkW n (fun y => decide ((y : Int) ∈ s)) 0 idF x : Int) (keepL s w l') = (rkW n (fun y => decide ((y : Int) ∈ s)) 0 (fun y => endOf (y : Int) l) x : Int) := by
 generalize hq : (fun y : Nat => decide ((y : Int) ∈ s)) = q
 have hqs : ∀ y : Nat, q y = true ↔ (y : Int) ∈ s := fun y => by rw [← hq]; simp
 induction w with
 | zero =>
  intro l' _ ho h
  exact ⟨ho, fun x hx hs => h x hx (by unfold inW; rw [(hqs x).2 hs, Bool.or_true])⟩
 | succ w ih =>
  intro l' hw ho h
  rw [keepL]
  by_cases c : (w : Int) ∈ s
  ·rw [if_pos c]
   have c' : q w = true := (hqs w).2 c
   refine ih l' (by omega) (by rw [← nW_yes c']; exact ho) (fun x hx hin => ?_)
   rw [← rkW_yes c', ← rkW_yes c']
   exact h x hx (by rw [inW_yes c']; exact hin)
  ·rw [if_neg c]
   have c' : q w = false := by rw [Bool.eq_false_iff]; exact fun e => c ((hqs w).1 e)
   have hN := nW_no (n := n) (by omega : w < n) c'
   have hNn := nW_le n q (w + 1)
   have hww : inW q (w + 1) w = true := by unfold inW; simp
   have hws := rk_self (n := n) (q := q) (w := w) (by omega)
   have hwl := rkW_lt (n := n) idF (by omega : w < n) hww
   rw [hws] at hwl
   refine ih _ (by omega) ?_ (fun x hx hin => ?_)
   ·have := tk_ok (n := nW n q (w + 1)) (by omega) l' (w : Int) (by omega) (by omega) ho
    rw [hN] at this; exact this
   ·have hxw : x ≠ w := by intro e; subst e; rw [inW_no c'] at hin; cases hin
    have hin' : inW q (w + 1) x = true := by rw [inW_ne hxw]; exact hin
    have hxl := rkW_lt (n := n) idF hx hin'
    have e1 := rkW_shk (n := n) (by omega : w < n) c' idF x
    have e2 := rkW_shk (n := n) (by omega : w < n) c' (fun y => endOf (y : Int) l) x
    have hne : (rkW n q (w + 1) idF x : Int) ≠ (w : Int) := by
     have k1 := rkW_no (n := n) (by omega : w < n) c' idF x
     have k2 := rkW_no (n := n) (by omega : w < n) c' idF w
     rw [if_neg (by omega), hws] at k2
     by_cases d : idF w < idF x
     ·have := rkW_le (n := n) (q := q) (w := w) (f := idF) (x := w) (z := x) (by omega)
      rw [if_pos d] at k1; omega
     ·have d' : x < w := by unfold idF at d; omega
      have : rkW n q (w + 1) idF x < rkW n q (w + 1) idF w := cR_lt (fun y _ hy => by simp [idF] at hy ⊢; exact ⟨hy.1, by omega⟩) x hx (by simp) (by simp [hin', idF]; omega)
      omega
    have key := (tk_end (n := nW n q (w + 1)) (by omega) l' (w : Int) (rkW n q (w + 1) idF x : Int) (by omega) (by omega) (by omega) (by omega) hne ho).1
    rw [h x hx hin'] at key
    have hw2 := h w (by omega) hww
    rw [hws] at hw2 e1
    rw [hw2, e1, e2] at key
    exact key
theorem keep_all {n : Nat} (hn : n ≤ 1000) (s : List Int) (l : List Int) (hl : OKr n l) : OKr (nW n (fun y => decide ((y : Int) ∈ s)) 0) (keepL s n l) ∧ ∀ x : Nat, x < n → (x : Int) ∈ s → endOf (rkW n (fun y => decide ((y : Int) ∈ s)) 0 idF x : Int) (keepL s n l) = (rkW n (fun y => decide ((y : Int) ∈ s)) 0 (fun y => endOf (y : Int) l) x : Int) := by
 refine keep_ends hn s l hl n l (Nat.le_refl _) (by rw [nW_all]; exact hl) (fun x hx _ => ?_)
 have e1 : rkW n (fun y => decide ((y : Int) ∈ s)) n idF x = cR n (fun y => decide (y < x)) := cR_congr fun y hy => by simp [inW, hy, idF]
 have e2 : rkW n (fun y => decide ((y : Int) ∈ s)) n (fun y => endOf (y : Int) l) x = cR n (fun y => decide (endOf (y : Int) l < endOf (x : Int) l)) := cR_congr fun y hy => by simp [inW, hy]
 have hb := endOf_lt l hn (x : Int) (by omega) (by omega) hl
 have e3 := cR_ends hn l hl (endOf (x : Int) l) hb.1 (by omega)
 rw [e1, e2, cR_below n x (by omega), e3]
def lessN (p : List Int) (l : List Int) (i : Int) : Int := ((l.filter fun j => decide (rd p j < rd p i)).length : Int)
def patL (p l : List Int) : List Int := l.map (lessN p l)
theorem patternI_l1 (p l : List Int) (hn : l.length ≤ 1048576) (hin : ∀ x ∈ l, 0 ≤ x ∧ x < p.length) (acc : List Int) (x : Nat) (hx : x < l.length) (r : List Int) (hacc : acc.length < 17592186044416)
  (cont : Ev (fun k => impl_pattern.l0 k p l (acc ++ [lessN p l l[x]]) l (l.length : Int) ((x + 1 : Nat) : Int)) r) :
  Ev (fun k => impl_pattern.l1 k p l acc l[x] 0 l (l.length : Int) (x : Int) l (l.length : Int) ((0 : Nat) : Int)) r := by
 have hx0 := hin l[x] (List.getElem_mem hx)
 have key := Ev.inv (σ := Int) (L := fun k j s => impl_pattern.l1 k p l acc l[x] s l (l.length : Int) (x : Int) l (l.length : Int) (j : Int)) (r := r) (n := l.length)
  (Inv := fun j s => s = (((l.take j).filter fun j => decide (rd p j < rd p l[x])).length : Int))
  (fun s hs => by
   subst hs
   refine Ev.succ ?_
   have g1 : ¬ (l.length : Int) < (l.length : Int) := by omega
   simp only [impl_pattern.l1, g1, if_false, hacc, if_true, List.take_length, wrap_nat x l.length hx (by omega)]
   exact cont)
  (fun j s hj hs ih => by
   subst hs
   refine Ev.succ ?_
   have h1 : (j : Int) < (l.length : Int) := by omega
   have h0 : (0 : Int) ≤ (j : Int) := by omega
   have hj0 := hin l[j] (List.getElem_mem hj)
   simp only [impl_pattern.l1, h1, h0, if_true, rd_nat l j hj, hj0.1, hj0.2, hx0.1, hx0.2, wrap_nat j l.length hj (by omega)]
   have hl : ((l.take j).filter fun j => decide (rd p j < rd p l[x])).length ≤ j := Nat.le_trans (List.length_filter_le _ _) (by rw [List.length_take]; omega)
   refine Ev.ite (fun h => ?_) (fun h => ?_)
   ·have : wrap64 ((((l.take j).filter fun j => decide (rd p j < rd p l[x])).length : Int) + 1) = (((l.take (j + 1)).filter fun j => decide (rd p j < rd p l[x])).length : Int) := by
     rw [take_snoc l j hj, List.filter_append, List.filter_cons]
     simp only [h, decide_true, if_true, List.filter_nil, List.length_append, List.length_cons, List.length_nil]
     unfold wrap64; omega
    rw [this]; exact ih _ rfl
   ·refine ih _ ?_
    rw [take_snoc l j hj, List.filter_append, List.filter_cons]
    simp [h])
 exact key 0 0 (Nat.zero_le _) (by simp)
theorem patternI_ev (p l : List Int) (hn : l.length ≤ 1048576) (hin : ∀ x ∈ l, 0 ≤ x ∧ x < p.length) : Ev (fun k => impl_pattern.f k p l) (patL p l) := by
 have key := Ev.inv (σ := List Int) (L := fun k j s => impl_pattern.l0 k p l s l (l.length : Int) (j : Int)) (r := patL p l) (n := l.length)
  (Inv := fun j s => s = (patL p l).take j)
  (fun s hs => by
   subst hs
   refine Ev.succ (Ev.ret fun k => ?_)
   rw [impl_pattern.l0, if_neg (by omega), List.take_of_length_le (by simp [patL])])
  (fun j s hj hs ih => by
   subst hs
   refine Ev.succ ?_
   have h1 : (j : Int) < (l.length : Int) := by omega
   have h0 : (0 : Int) ≤ (j : Int) := by omega
   simp only [impl_pattern.l0, h1, h0, if_true, rd_nat l j hj]
   refine patternI_l1 p l hn hin _ j hj _ (by rw [List.length_take]; simp [patL]; omega) (ih _ ?_)
   have hj' : j < (patL p l).length := by simp [patL]; exact hj
   rw [take_snoc _ j hj']; simp [patL])
 exact key 0 [] (Nat.zero_le _) rfl
def orderAt (p : List Int) (i : Nat) : Bool := inB (rd p i) 0 (wrap64 ((p.length : Int) - 1)) && !(decide (rd p i ∈ p.take i))
def orderB (p : List Int) : Bool := inB (p.length : Int) 1 8 && (List.range' 0 p.length).all (orderAt p)
theorem orderB_iff (p : List Int) : orderB p = true ↔ (1 ≤ p.length ∧ p.length ≤ 8) ∧ (∀ i, (h : i < p.length) → 0 ≤ p[i] ∧ p[i] < p.length ∧ ¬ p[i] ∈ p.take i) := by
 unfold orderB
 rw [Bool.and_eq_true]
 constructor
 ·rintro ⟨h1, h2⟩
  have h1' : 1 ≤ p.length ∧ p.length ≤ 8 := by unfold inB at h1; simp at h1; omega
  refine ⟨h1', fun i hi => ?_⟩
  have := List.all_eq_true.1 h2 i (by simp [hi])
  have e : wrap64 ((p.length : Int) - 1) = (p.length : Int) - 1 := wrap_in (by omega) (by omega)
  unfold orderAt inB at this
  rw [e, rd_nat p i hi] at this
  simp at this
  exact ⟨by omega, by omega, this.2⟩
 ·rintro ⟨h1, h2⟩
  refine ⟨by unfold inB; simp; omega, List.all_eq_true.2 fun i hi => ?_⟩
  have hi' : i < p.length := by simpa using hi
  obtain ⟨a, b, c⟩ := h2 i hi'
  have e : wrap64 ((p.length : Int) - 1) = (p.length : Int) - 1 := wrap_in (by omega) (by omega)
  unfold orderAt inB
  rw [e, rd_nat p i hi']
  simp
  exact ⟨by omega, c⟩
theorem isOrder_ev (p : List Int) : Ev (fun k => impl_isOrder.f k p) (orderB p) := by
 unfold impl_isOrder.f orderB
 simp only [btw_f, Option.bind_some]
 refine Ev.iteb (fun h => ?_) (fun h => ?_)
 ·rw [h, Bool.true_and]
  have hn : 1 ≤ (p.length : Int) ∧ (p.length : Int) ≤ 8 := by unfold inB at h; simpa using h
  have key := Ev.upto (L := fun k j (_ : Unit) => impl_isOrder.l0 k p p (p.length : Int) (j : Int)) (R := fun j _ => (List.range' j (p.length - j)).all (orderAt p)) (n := p.length)
   (fun _ => by
    refine Ev.succ (Ev.ret fun k => ?_)
    rw [impl_isOrder.l0, if_neg (by omega), Nat.sub_self]; rfl)
   (fun j _ hj ih => by
    refine Ev.succ ?_
    have h1 : (j : Int) < (p.length : Int) := by omega
    have h0 : (0 : Int) ≤ (j : Int) := by omega
    have h2 : (j : Int) ≤ (p.length : Int) := by omega
    have e : p.length - j = (p.length - (j + 1)) + 1 := by omega
    simp only [impl_isOrder.l0, h1, h0, h2, if_true, btw_f, Option.bind_some, wrap_nat j p.length hj (by omega), nat_toNat]
    rw [e, List.range'_succ, List.all_cons, orderAt]
    refine Ev.iteb (fun h => ?_) (fun h => ?_)
    ·rw [h, Bool.true_and]
     refine Ev.bind (Contains_ev _ _ (by rw [List.length_take]; omega)) ?_
     refine Ev.iteb (fun h => ?_) (fun h => ?_)
     ·rw [h]; exact Ev.now _
     ·rw [h]; exact ih ()
    ·rw [h]; exact Ev.now _)
  exact key 0 () (Nat.zero_le _)
 ·rw [h]; exact Ev.now _
theorem rising_pw {s : List Int} {n : Nat} (h : risingB s (n : Int) = true) : s.Pairwise (· < ·) := by
 rw [List.pairwise_iff_getElem]
 intro i j hi hj hij
 obtain ⟨d, rfl⟩ : ∃ d, j = i + 1 + d := ⟨j - i - 1, by omega⟩
 induction d with
 | zero =>
  have h2 := rising_lt h i hj
  rw [rd_nat s i hi, rd_nat s (i + 1) hj] at h2
  exact h2
 | succ d ih =>
  have h1 := ih (by omega) (by omega)
  have h2 := rising_lt h (i + 1 + d) (by omega)
  rw [rd_nat s (i + 1 + d) (by omega), rd_nat s (i + 1 + d + 1) (by omega)] at h2
  exact Int.lt_trans h1 h2
theorem pw_rising {s : List Int} {n : Nat} (hn : 1 ≤ n) (hn8 : n ≤ 1000) (h : s.Pairwise (· < ·)) (hin : ∀ x ∈ s, 0 ≤ x ∧ x < (n : Int)) : risingB s (n : Int) = true := by
 unfold risingB
 rw [List.all_eq_true]
 intro i hi
 have hi' : i < s.length := by simpa using hi
 have h1 := hin s[i] (List.getElem_mem hi')
 unfold riseAt
 rw [rd_nat s i hi', wrap_in (by omega) (by omega), Bool.and_eq_true]
 refine ⟨(inB_iff _ _ _).2 (by omega), ?_⟩
 by_cases e : i = 0
 ·simp [e]
 ·obtain ⟨j, rfl⟩ : ∃ j, i = j + 1 := ⟨i - 1, by omega⟩
  have e2 : ((j + 1 : Nat) : Int) - 1 = (j : Int) := by omega
  have := List.pairwise_iff_getElem.1 h j (j + 1) (by omega) hi' (by omega)
  rw [e2, rd_nat s j (by omega)]
  simp [this]
theorem cR_none (n : Nat) : cR n (fun _ => false) = 0 := by
 induction n with
 | zero => rfl
 | succ n ih => rw [cR_succ, ih]; simp
theorem cR_mem {n : Nat} (s : List Int) : s.Pairwise (· < ·) → (∀ x ∈ s, 0 ≤ x ∧ x < (n : Int)) → ∀ P : Int → Bool, cR n (fun y => decide ((y : Int) ∈ s) && P (y : Int)) = s.countP P := by
 induction s with
 | nil => intro _ _ P; rw [show (fun y : Nat => decide ((y : Int) ∈ ([] : List Int)) && P (y : Int)) = fun _ => false from by funext y; simp, cR_none]; rfl
 | cons a s ih =>
  intro hp hin P
  obtain ⟨h1, h2⟩ := List.pairwise_cons.1 hp
  have ha := hin a (List.mem_cons_self ..)
  obtain ⟨w, rfl⟩ : ∃ w : Nat, a = w := ⟨a.toNat, by omega⟩
  have hns : ¬ ((w : Int) ∈ s) := fun hm => by have := h1 _ hm; omega
  rw [List.countP_cons, ← ih h2 (fun x hx => hin x (List.mem_cons_of_mem _ hx)) P]
  refine cR_one (P := fun y => decide ((y : Int) ∈ (w : Int) :: s) && P (y : Int)) (Q := fun y => decide ((y : Int) ∈ s) && P (y : Int)) (R := fun y => P (y : Int)) w (by omega) (fun y _ hy => ?_) (by simp [hns]) (by simp)
  have : ¬ (y : Int) = (w : Int) := by omega
  simp [this]
theorem cnt_idx (s : List Int) : s.Pairwise (· < ·) → ∀ (i : Nat) (hi : i < s.length), s.countP (fun z => decide (z < s[i])) = i := by
 induction s with
 | nil => intro _ i hi; simp at hi
 | cons a s ih =>
  intro hp i hi
  obtain ⟨h1, h2⟩ := List.pairwise_cons.1 hp
  cases i with
  | zero =>
   simp only [List.getElem_cons_zero, List.countP_cons]
   have : s.countP (fun z => decide (z < a)) = 0 := List.countP_eq_zero.2 fun z hz => by have := h1 z hz; simp; omega
   rw [this]; simp
  | succ i =>
   have hi' : i < s.length := by simpa using hi
   simp only [List.getElem_cons_succ, List.countP_cons]
   rw [ih h2 i hi', if_pos (by have := h1 _ (List.getElem_mem hi'); simpa using this)]
theorem inW_zero (q : Nat → Bool) (y : Nat) : inW q 0 y = q y := by simp [inW]
theorem nW_mem {n : Nat} {s : List Int} (hp : s.Pairwise (· < ·)) (hin : ∀ x ∈ s, 0 ≤ x ∧ x < (n : Int)) : nW n (fun y => decide ((y : Int) ∈ s)) 0 = s.length := by
 have := cR_mem s hp hin (fun _ => true)
 unfold nW
 rw [cR_congr (Q := fun y : Nat => decide ((y : Int) ∈ s) && true) (fun y _ => by rw [inW_zero, Bool.and_true])]
 rw [this]; simp
theorem kept_pat {n : Nat} (hn : n ≤ 1000) (s l : List Int) (hl : OKr n l) (hp : s.Pairwise (· < ·)) (hin : ∀ x ∈ s, 0 ≤ x ∧ x < (n : Int)) : res s.length (keepL s n l) = patL (res n l) s ∧ OKr s.length (keepL s n l) := by
 obtain ⟨k1, k2⟩ := keep_all hn s l hl
 rw [nW_mem hp hin] at k1
 refine ⟨?_, k1⟩
 apply List.ext_getElem
 ·rw [res_length]; simp [patL]
 ·intro i hi hi2
  rw [res_length] at hi
  have hm := List.getElem_mem hi
  have hx := hin _ hm
  obtain ⟨x, hxe⟩ : ∃ x : Nat, s[i] = x := ⟨s[i].toNat, by omega⟩
  have key := k2 x (by omega) (by rw [← hxe]; exact hm)
  have e1 : rkW n (fun y => decide ((y : Int) ∈ s)) 0 idF x = i := by
   have := cR_mem s hp hin (fun z => decide (z < (x : Int)))
   unfold rkW
   rw [cR_congr (Q := fun y : Nat => decide ((y : Int) ∈ s) && decide ((y : Int) < (x : Int))) (fun y _ => by rw [inW_zero]; rfl), this, ← hxe]
   exact cnt_idx s hp i hi
  have e2 : (rkW n (fun y => decide ((y : Int) ∈ s)) 0 (fun y => endOf (y : Int) l) x : Int) = lessN (res n l) s s[i] := by
   have := cR_mem s hp hin (fun z => decide (endOf z l < endOf (x : Int) l))
   unfold rkW lessN
   rw [cR_congr (Q := fun y : Nat => decide ((y : Int) ∈ s) && decide (endOf (y : Int) l < endOf (x : Int) l)) (fun y _ => by rw [inW_zero]), this, ← List.countP_eq_length_filter]
   congr 1
   apply List.countP_congr
   intro z hz
   have hz' := hin z hz
   obtain ⟨u, rfl⟩ : ∃ u : Nat, z = u := ⟨z.toNat, by omega⟩
   rw [hxe, rd_res n l u (by omega), rd_res n l x (by omega)]
  rw [e1, e2] at key
  have g1 : (res s.length (keepL s n l))[i] = endOf (i : Int) (keepL s n l) := by simp [res]
  have g2 : (patL (res n l) s)[i] = lessN (res n l) s s[i] := by simp [patL]
  rw [g1, g2]; exact key
theorem res_order {n : Nat} (h1 : 1 ≤ n) (h2 : n ≤ 8) (l : List Int) (hl : OKr n l) : orderB (res n l) = true := by
 have hlen := res_length n l
 refine (orderB_iff _).2 ⟨by omega, fun i hi0 => ?_⟩
 have hi : i < n := by omega
 have g : ∀ j (hj : j < n), (res n l)[j]'(by rw [res_length]; exact hj) = endOf (j : Int) l := fun j hj => by simp [res]
 have hb := endOf_lt l (n := n) (by omega) (i : Int) (by omega) (by omega) hl
 rw [g i hi]
 refine ⟨hb.1, by rw [hlen]; exact hb.2, fun hm => ?_⟩
 obtain ⟨j, hj, e⟩ := List.mem_iff_getElem.1 hm
 rw [List.length_take, res_length] at hj
 rw [List.getElem_take, g j (by omega)] at e
 have hl2 : ∀ q ∈ l, 0 ≤ q ∧ q ≤ 1000 := fun q hq => by have := hl q hq; omega
 have s1 := start_end l (j : Int) hl2
 have s2 := start_end l (i : Int) hl2
 rw [e, s2] at s1
 omega
theorem PatternOf_ev {n : Nat} (h1 : 1 ≤ n) (h2 : n ≤ 8) (l : List Int) (hl : OKr n l) (s : List Int) (hs : s.length ≤ 1048576) (h0 : s ≠ []) (hr : risingB s (n : Int) = true) : Ev (fun k => impl_PatternOf.f k (res n l) s) (patL (res n l) s, true) := by
 unfold impl_PatternOf.f
 refine Ev.bind (isOrder_ev _) ?_
 rw [res_order h1 h2 l hl]
 have hne : ¬ (s.length : Int) = 0 := by have := List.length_pos_iff.2 h0; omega
 simp only [if_true, hne, if_false]
 have e : (((res n l).length : Nat) : Int) = (n : Int) := by rw [res_length]
 rw [e]
 refine Ev.bind (isRising_ev s _ hs) ?_
 rw [hr]
 simp only [if_true]
 refine Ev.bind (patternI_ev (res n l) s hs (fun x hx => by rw [e]; obtain ⟨i, hi, rfl⟩ := mem_rd hx; exact rising_in hr h1 (by omega) i hi)) (Ev.now _)
def takeV (a : Int) (l : List Int) (x : Int) : Int × List Int × Bool := if isLadderB a l = true then (if inB x 0 (wrap64 (a - 1)) = true then (if a < 3 then (0, [], false) else (wrap64 (a - 1), tk x l, true)) else (0, [], false)) else (0, [], false)
theorem TakeStart_vals (a : Int) (l : List Int) (x : Int) : Ev (fun k => spec_TakeStart.f k a l x) (takeV a l x) ∧ Ev (fun k => impl_TakeStart.f k a l x) (takeV a l x) ∧ (takeV a l x).2.1.length ≤ 60 := by
 unfold takeV
 refine ⟨?_, ?_, ?_⟩
 ·unfold spec_TakeStart.f spec_laWire.f
  by_cases h : isLadderB a l = true
  ·have hl := (isLadderB_iff a l).1 h
   refine Ev.bind (a := inB x 0 (wrap64 (a - 1))) (Ev.bind (laGood_ev a l) ?_) ?_
   ·simp only [h, if_true, l1In_f, Option.bind_some]; exact Ev.now _
   ·rw [if_pos h]
    refine Ev.iteb (fun h2 => ?_) (fun h2 => ?_)
    ·rw [if_pos h2]
     refine Ev.ite (fun h3 => ?_) (fun h3 => ?_)
     ·rw [if_pos h3]; exact Ev.now _
     ·rw [if_neg h3]; exact Ev.bind (mrTake_ev l x (by omega)) (Ev.now _)
    ·rw [if_neg (by simp [h2])]; exact Ev.now _
  ·have h' : isLadderB a l = false := by simpa using h
   refine Ev.bind (a := false) (Ev.bind (laGood_ev a l) ?_) ?_
   ·simp only [h', Bool.false_eq_true, if_false]; exact Ev.now _
   ·rw [if_neg h]; simp only [Bool.false_eq_true, if_false]; exact Ev.now _
 ·unfold impl_TakeStart.f impl_hasWire.f impl_isLadder.f
  simp only [Option.bind_some, btw_f]
  by_cases h : isLadderB a l = true
  ·have hl := (isLadderB_iff a l).1 h
   simp only [h, if_true, Option.bind_some]
   refine Ev.iteb (fun h2 => ?_) (fun h2 => ?_)
   ·rw [if_pos h2]
    refine Ev.ite (fun h3 => ?_) (fun h3 => ?_)
    ·rw [if_pos h3]; exact Ev.now _
    ·rw [if_neg h3]; exact Ev.bind (takeStart_ev a l x (by omega)) (Ev.now _)
   ·rw [if_neg (by simp [h2])]; exact Ev.now _
  ·have h' : isLadderB a l = false := by simpa using h
   simp only [h', Bool.false_eq_true, if_false, Option.bind_some]
   exact Ev.now _
 ·split
  ·rename_i h
   have hl := (isLadderB_iff a l).1 h
   split
   ·split
    ·simp
    ·have := tk_length l x; simp only; omega
   ·simp
  ·simp
def selL (q : Nat → Bool) : Nat → List Int
 | 0 => []
 | j + 1 => if q j = true then selL q j ++ [(j : Int)] else selL q j
theorem selL_length (q : Nat → Bool) (n : Nat) : (selL q n).length ≤ n := by
 induction n with
 | zero => simp [selL]
 | succ n ih =>
  rw [selL]
  split
  ·rw [List.length_append, List.length_singleton]; omega
  ·omega
theorem way_ev (a : Int) (l : List Int) (w : Int) (hn : l.length ≤ 1000000) : Ev (fun k => impl_way.f k a l w) (downs w l) := by
 have key := Ev.inv (σ := Int × List Int) (L := fun k j s => impl_way.l0 k s.1 s.2 l (l.length : Int) (j : Int)) (r := downs w l) (n := l.length)
  (Inv := fun j s => s.1 = endOf w (l.take j) ∧ s.2 = downs w (l.take j))
  (fun s hs => by
   obtain ⟨s1, s2⟩ := s; obtain ⟨rfl, rfl⟩ := hs
   refine Ev.succ (Ev.ret fun k => ?_)
   rw [impl_way.l0, if_neg (by omega), List.take_length])
  (fun j s hj hs ih => by
   obtain ⟨s1, s2⟩ := s; obtain ⟨rfl, rfl⟩ := hs
   refine Ev.succ ?_
   have h1 : (j : Int) < (l.length : Int) := by omega
   have h0 : (0 : Int) ≤ (j : Int) := by omega
   have h2 : (downs w (l.take j)).length < 17592186044416 := by rw [downs_length, List.length_take]; omega
   simp only [impl_way.l0, h1, h0, h2, if_true, rd_nat l j hj, wrap_nat j _ hj (by omega), over_f, Option.bind_some]
   have e1 : ovr (endOf w (l.take j)) l[j] = endOf w (l.take (j + 1)) := by rw [take_snoc l j hj, endOf_snoc]
   have e2 : downs w (l.take j) ++ [ovr (endOf w (l.take j)) l[j]] = downs w (l.take (j + 1)) := by rw [take_snoc l j hj, downs_snoc]
   exact ih (_, _) ⟨e1, e2⟩)
 exact key 0 (w, [w]) (Nat.zero_le _) ⟨rfl, rfl⟩
theorem selF_ev (a : Int) (l : List Int) (hl : l.length ≤ 1000000) (p : Nat → List Int → Option Bool) (q : Nat → Bool) (n : Nat) (hp : ∀ j : Nat, j < n → Ev (fun k => p k (downs (j : Int) l)) (q j)) : Ev (fun k => selF k a l (p k) n) (selL q n) := by
 induction n with
 | zero => exact Ev.now _
 | succ n ih =>
  refine Ev.bind (ih fun j hj => hp j (by omega)) ?_
  refine Ev.bind (way_ev a l (n : Int) hl) ?_
  refine Ev.bind (hp n (by omega)) ?_
  refine Ev.eq (Ev.now _) ?_
  rw [selL]
theorem overs_l0 (x : List Int) (n : Nat) (hx : x.length = n + 1) (hn : n ≤ 1000000) (d : Nat) : ∀ (j c : Nat), j + d = n → c ≤ j →
  Ev (fun k => impl_overs.l0 k x (c : Int) ((j + 1 : Nat) : Int)) ((c + chg x j d : Nat) : Int) := by
 induction d with
 | zero =>
  intro j c hj _
  refine Ev.succ ?_
  have g1 : ¬ ((j + 1 : Nat) : Int) < (x.length : Int) := by omega
  simp only [impl_overs.l0, g1, if_false]
  exact Ev.now _
 | succ d ih =>
  intro j c hj hc
  refine Ev.succ ?_
  have g1 : ((j + 1 : Nat) : Int) < (x.length : Int) := by omega
  have g2 : (0 : Int) ≤ ((j + 1 : Nat) : Int) := by omega
  have gw : wrap64 (((j + 1 : Nat) : Int) - 1) = (j : Int) := by unfold wrap64; omega
  have g4 : (0 : Int) ≤ (j : Int) := by omega
  have g5 : (j : Int) < (x.length : Int) := by omega
  have gc : wrap64 ((c : Int) + 1) = ((c + 1 : Nat) : Int) := wrap_nat c (c + 1) (by omega) (by omega)
  have gj : wrap64 (((j + 1 : Nat) : Int) + 1) = ((j + 1 + 1 : Nat) : Int) := wrap_nat (j + 1) (j + 2) (by omega) (by omega)
  simp only [impl_overs.l0, gw, gj, gc, g1, g2, g4, g5, if_true]
  refine Ev.ite (fun e => ?_) (fun e => ?_)
  ·refine Ev.eq (ih (j + 1) c (by omega) (by omega)) ?_
   rw [chg, if_pos e.symm, Nat.zero_add]
  ·refine Ev.eq (ih (j + 1) (c + 1) (by omega) (by omega)) ?_
   rw [chg, if_neg (fun h => e h.symm), ← Nat.add_assoc]
theorem overs_ev (x : List Int) (n : Nat) (hx : x.length = n + 1) (hn : n ≤ 1000000) : Ev (fun k => impl_overs.f k x) ((chg x 0 n : Nat) : Int) := by
 unfold impl_overs.f
 exact Ev.eq (overs_l0 x n hx hn n 0 0 (by omega) (by omega)) (by rw [Nat.zero_add])
theorem ladder_ok {n : Nat} {l : List Int} (h : isLadderB n l = true) : 2 ≤ n ∧ n ≤ 8 ∧ l.length ≤ 60 ∧ OKr n l := by
 have := (isLadderB_iff _ l).1 h
 exact ⟨by omega, by omega, this.2.2.1, this.2.2.2⟩
theorem ok_ladder {n : Nat} {l : List Int} (h1 : 2 ≤ n) (h2 : n ≤ 8) (h3 : l.length ≤ 60) (h4 : OKr n l) : isLadderB n l = true := (isLadderB_iff _ l).2 ⟨by omega, by omega, h3, h4⟩
theorem hasWire_f {n : Nat} {l : List Int} (h : isLadderB n l = true) (x : Int) (h0 : 0 ≤ x) (h1 : x < n) : impl_hasWire.f (n : Int) l x = some true := by
 have hl := ladder_ok h
 unfold impl_hasWire.f impl_isLadder.f
 simp only [Option.bind_some, h, if_true, btw_f]
 rw [wrap_in (by omega) (by omega), (inB_iff _ _ _).2 (by omega)]
theorem EndOf_ev {n : Nat} {l : List Int} (h : isLadderB n l = true) (x : Int) (h0 : 0 ≤ x) (h1 : x < n) : Ev (fun k => impl_EndOf.f k (n : Int) l x) (endOf x l, true) := by
 have hl := ladder_ok h
 unfold impl_EndOf.f
 rw [hasWire_f h x h0 h1]
 simp only [Option.bind_some, if_true]
 refine Ev.bind (way_ev _ l x (by omega)) ?_
 have e : wrap64 (((downs x l).length : Int) - 1) = ((l.length : Nat) : Int) := by rw [downs_length]; unfold wrap64; omega
 have g0 : (0 : Int) ≤ ((l.length : Nat) : Int) := by omega
 have g1 : ((l.length : Nat) : Int) < ((downs x l).length : Int) := by rw [downs_length]; omega
 simp only [e, g0, g1, if_true]
 rw [rd_downs l x l.length (Nat.le_refl _), List.take_length]
 exact Ev.now _
theorem RungsUsed_ev {n : Nat} {l : List Int} (h : isLadderB n l = true) (x : Int) (h0 : 0 ≤ x) (h1 : x < n) : ∃ u : List Int, u.length = tch x l ∧ Ev (fun k => impl_RungsUsed.f k (n : Int) l x) (u, true) := by
 have hl := ladder_ok h
 have main : ∀ d j (acc : List Int), j + d = l.length → acc.length = tch x (l.take j) → ∃ u : List Int, u.length = tch x l ∧ Ev (fun k => impl_RungsUsed.l0 k (downs x l) acc (l.length : Int) (j : Int)) (u, true) := by
  intro d
  induction d with
  | zero =>
   intro j acc hj hacc
   refine ⟨acc, by rw [hacc, List.take_of_length_le (by omega)], Ev.succ (Ev.ret fun k => ?_)⟩
   rw [impl_RungsUsed.l0, if_neg (by omega)]
  | succ d ih =>
   intro j acc hj hacc
   have hj' : j < l.length := by omega
   have ht := tch_snoc (l.take j) l[j] x
   rw [← take_snoc l j hj'] at ht
   have g1 : (j : Int) < (l.length : Int) := by omega
   have g0 : (0 : Int) ≤ (j : Int) := by omega
   have g2 : (j : Int) < ((downs x l).length : Int) := by rw [downs_length]; omega
   have g3 : (0 : Int) ≤ ((j + 1 : Nat) : Int) := by omega
   have g4 : ((j + 1 : Nat) : Int) < ((downs x l).length : Int) := by rw [downs_length]; omega
   have g5 : acc.length < 17592186044416 := by have := tch_le (l.take j) x; rw [List.length_take] at this; omega
   have e1 : endOf x (l.take (j + 1)) = ovr (endOf x (l.take j)) l[j] := by rw [take_snoc l j hj', endOf_snoc]
   by_cases c : ovr (endOf x (l.take j)) l[j] = endOf x (l.take j)
   ·rw [if_pos c] at ht
    obtain ⟨u, hu, he⟩ := ih (j + 1) acc (by omega) (by omega)
    refine ⟨u, hu, Ev.succ ?_⟩
    simp only [impl_RungsUsed.l0, g1, g0, g2, wrap_nat j _ hj' (by omega), g3, g4, if_true, rd_downs l x j (by omega), rd_downs l x (j + 1) (by omega), e1, c]
    exact he
   ·rw [if_neg c] at ht
    obtain ⟨u, hu, he⟩ := ih (j + 1) (acc ++ [(j : Int)]) (by omega) (by rw [List.length_append, List.length_singleton]; omega)
    refine ⟨u, hu, Ev.succ ?_⟩
    have c' : ¬ endOf x (l.take j) = ovr (endOf x (l.take j)) l[j] := fun e => c e.symm
    simp only [impl_RungsUsed.l0, g1, g0, g2, g5, wrap_nat j _ hj' (by omega), g3, g4, if_true, rd_downs l x j (by omega), rd_downs l x (j + 1) (by omega), e1, c', if_false]
    exact he
 obtain ⟨u, hu, he⟩ := main l.length 0 [] (by omega) rfl
 refine ⟨u, hu, ?_⟩
 unfold impl_RungsUsed.f
 rw [hasWire_f h x h0 h1]
 simp only [Option.bind_some, if_true]
 exact Ev.bind (way_ev _ l x (by omega)) he
theorem StaysOn_ev {n : Nat} {l : List Int} (h : isLadderB n l = true) : Ev (fun k => impl_StaysOn.f k (n : Int) l) (selL (fun j => ((chg (downs (j : Int) l) 0 l.length : Nat) : Int) == 0) n, true) := by
 have hl := ladder_ok h
 unfold impl_StaysOn.f impl_isLadder.f
 simp only [Option.bind_some, h, if_true]
 have e : ((n : Int)).toNat = n := by omega
 rw [e]
 refine Ev.bind (selF_ev (n : Int) l (by omega) (fun k x => (impl_overs.f k x).bind fun c => some (c == 0)) (fun j => ((chg (downs (j : Int) l) 0 l.length : Nat) : Int) == 0) n fun j hj => ?_) (Ev.now _)
 exact Ev.bind (overs_ev _ l.length (downs_length l _) (by omega)) (Ev.now _)
theorem selL_mem (q : Nat → Bool) (n : Nat) (x : Int) : x ∈ selL q n ↔ ∃ i : Nat, i < n ∧ x = (i : Int) ∧ q i = true := by
 induction n with
 | zero => simp [selL]
 | succ n ih =>
  rw [selL]
  by_cases c : q n = true
  ·rw [if_pos c, List.mem_append, ih]
   constructor
   ·rintro (⟨i, h1, h2, h3⟩ | h)
    ·exact ⟨i, by omega, h2, h3⟩
    ·exact ⟨n, by omega, by simpa using h, c⟩
   ·rintro ⟨i, h1, h2, h3⟩
    by_cases e : i = n
    ·right; subst e; simp [h2]
    ·left; exact ⟨i, by omega, h2, h3⟩
  ·rw [if_neg c, ih]
   constructor
   ·rintro ⟨i, h1, h2, h3⟩; exact ⟨i, by omega, h2, h3⟩
   ·rintro ⟨i, h1, h2, h3⟩
    by_cases e : i = n
    ·subst e; exact absurd h3 c
    ·exact ⟨i, by omega, h2, h3⟩
theorem selL_pw (q : Nat → Bool) (n : Nat) : (selL q n).Pairwise (· < ·) := by
 induction n with
 | zero => simp [selL]
 | succ n ih =>
  rw [selL]
  by_cases c : q n = true
  ·rw [if_pos c, List.pairwise_append]
   refine ⟨ih, List.pairwise_singleton .., fun x hx y hy => ?_⟩
   obtain ⟨i, h1, h2, _⟩ := (selL_mem q n x).1 hx
   have : y = (n : Int) := by simpa using hy
   omega
  ·rw [if_neg c]; exact ih
/-- all but one -/
def oth (s n : Nat) : List Int := selL (fun i => decide (i ≠ s)) n
theorem oth_get (s : Nat) (n : Nat) : (oth s n).length = (if n ≤ s then n else n - 1) ∧ ∀ i : Nat, i < (oth s n).length → (oth s n)[i]? = some (if i < s then (i : Int) else (i : Int) + 1) := by
 induction n with
 | zero => exact ⟨by simp [oth, selL], fun i hi => by simp [oth, selL] at hi⟩
 | succ n ih =>
  obtain ⟨h1, h2⟩ := ih
  have e : oth s (n + 1) = if n ≠ s then oth s n ++ [(n : Int)] else oth s n := by
   unfold oth; rw [selL]; simp
  by_cases c : n = s
  ·subst c
   rw [e, if_neg (by omega)]
   refine ⟨by rw [h1, if_pos (Nat.le_refl _), if_neg (by omega)]; omega, h2⟩
  ·rw [e, if_pos c]
   have hlen : (oth s n ++ [(n : Int)]).length = (oth s n).length + 1 := by simp
   refine ⟨?_, fun i hi => ?_⟩
   ·rw [hlen, h1]
    by_cases d : n ≤ s
    ·rw [if_pos d, if_pos (by omega)]
    ·rw [if_neg d, if_neg (by omega)]; omega
   ·by_cases d : i < (oth s n).length
    ·rw [List.getElem?_append_left d]; exact h2 i d
    ·have hi' : i = (oth s n).length := by omega
     rw [hi', List.getElem?_append_right (Nat.le_refl _), Nat.sub_self, h1]
     by_cases d2 : n ≤ s
     ·rw [if_pos d2, if_pos (by omega)]; rfl
     ·rw [if_neg d2, if_neg (by omega)]
      simp only [List.getElem?_cons_zero, Option.some.injEq]
      omega
theorem oth_mem (s n : Nat) (x : Int) : x ∈ oth s n ↔ 0 ≤ x ∧ x < n ∧ x ≠ (s : Int) := by
 unfold oth
 rw [selL_mem]
 constructor
 ·rintro ⟨i, h1, h2, h3⟩; simp at h3; omega
 ·rintro ⟨h1, h2, h3⟩; exact ⟨x.toNat, by omega, by omega, by simp; omega⟩
theorem keep_oth (s n : Nat) (w : Nat) : ∀ l, w ≤ n → keepL (oth s n) w l = if s < w then tk (s : Int) l else l := by
 induction w with
 | zero => intro l _; rw [if_neg (by omega)]; rfl
 | succ w ih =>
  intro l hw
  rw [keepL, ih _ (by omega)]
  by_cases c : w = s
  ·subst c
   rw [if_neg (c := (w : Int) ∈ oth w n) (fun h => by have := (oth_mem _ _ _).1 h; omega), if_neg (c := w < w) (by omega), if_pos (by omega)]
  ·rw [if_pos (c := (w : Int) ∈ oth s n) ((oth_mem _ _ _).2 (by omega))]
   by_cases d : s < w
   ·rw [if_pos d, if_pos (by omega)]
   ·rw [if_neg d, if_neg (by omega)]
theorem result_ev (n : Nat) (l : List Int) (hn : n ≤ 8) (hl : l.length ≤ 1000000) : Ev (fun k => impl_result.f k (n : Int) l) (res n l) := by
 have key := Ev.inv (σ := List Int) (L := fun k j s => impl_result.l0 k (n : Int) l s (n : Int) (j : Int)) (r := res n l) (n := n)
  (Inv := fun j s => s = (res n l).take j)
  (fun s hs => by
   subst hs
   refine Ev.succ (Ev.ret fun k => ?_)
   rw [impl_result.l0, if_neg (by omega), List.take_of_length_le (by rw [res_length]; omega)])
  (fun j s hj hs ih => by
   subst hs
   refine Ev.succ ?_
   have h1 : (j : Int) < (n : Int) := by omega
   have h3 : ((res n l).take j).length < 17592186044416 := by rw [List.length_take, res_length]; omega
   simp only [impl_result.l0, h1, if_true, wrap_nat j n hj (by omega)]
   refine Ev.bind (way_ev (n : Int) l (j : Int) hl) ?_
   have e0 : wrap64 (((downs (j : Int) l).length : Int) - 1) = (l.length : Int) := by rw [downs_length]; unfold wrap64; omega
   have h0 : (0 : Int) ≤ (l.length : Int) := by omega
   have h2 : (l.length : Int) < ((downs (j : Int) l).length : Int) := by rw [downs_length]; omega
   have e : rd (downs (j : Int) l) (l.length : Int) = endOf (j : Int) l := by
    unfold rd; rw [nat_toNat, List.getD_eq_getElem?_getD, downs_last]; rfl
   simp only [e0, h0, h2, h3, if_true, e]
   exact ih _ (res_take n j l hj).symm)
 exact key 0 [] (Nat.zero_le _) rfl
theorem kSame_refl (l : List Int) (hn : l.length ≤ 9223372036854775807) : Ev (fun k => laws_kSame.f k l l) true := by
 unfold laws_kSame.f
 simp only [if_true]
 have key := Ev.upto (L := fun k j (_ : Unit) => laws_kSame.l0 k l l (l.length : Int) (j : Int)) (R := fun _ _ => true) (n := l.length)
  (fun _ => by
   refine Ev.succ (Ev.ret fun k => ?_)
   rw [laws_kSame.l0, if_neg (by omega)])
  (fun j _ hj ih => by
   refine Ev.succ ?_
   have h1 : (j : Int) < (l.length : Int) := by omega
   have h0 : (0 : Int) ≤ (j : Int) := by omega
   simp only [laws_kSame.l0, h1, h0, if_true, wrap_nat j _ hj hn]
   exact ih ())
 exact key 0 () (Nat.zero_le _)
theorem kHas_yes (l : List Int) (x : Int) (hn : l.length ≤ 9223372036854775807) (hx : x ∈ l) : Ev (fun k => laws_kHas.f k l x) true := by
 unfold laws_kHas.f
 have key : ∀ d j : Nat, j + d = l.length → x ∈ l.drop j → Ev (fun k => laws_kHas.l0 k x l (l.length : Int) (j : Int)) true := by
  intro d
  induction d with
  | zero => intro j hj hm; rw [List.drop_of_length_le (by omega)] at hm; simp at hm
  | succ d ih =>
   intro j hj hm
   refine Ev.succ ?_
   have hj' : j < l.length := by omega
   have h1 : (j : Int) < (l.length : Int) := by omega
   have h0 : (0 : Int) ≤ (j : Int) := by omega
   simp only [laws_kHas.l0, h1, h0, if_true, rd_nat l j hj', wrap_nat j _ hj' hn]
   refine Ev.ite (fun _ => Ev.now _) (fun c => ih (j + 1) (by omega) ?_)
   rw [List.drop_eq_getElem_cons hj'] at hm
   rcases List.mem_cons.1 hm with e | e
   ·exact absurd e.symm c
   ·exact e
 exact key l.length 0 (by omega) (by simpa using hx)
theorem kLadder_refl (a : Int) (l : List Int) (hn : l.length ≤ 9223372036854775807) : Ev (fun k => laws_kLadder.f k a l a l) true := by
 unfold laws_kLadder.f
 simp only [if_true]
 exact Ev.bind (kSame_refl l hn) (Ev.now _)
theorem kResult_ev (n : Nat) (l : List Int) (h : isLadderB n l = true) : Ev (fun k => laws_kResult.f k (n : Int) l) (res n l) := by
 have hl := (isLadderB_iff _ l).1 h
 unfold laws_kResult.f impl_ResultOf.f impl_isLadder.f
 simp only [Option.bind_some, h, if_true]
 refine Ev.bind (Ev.bind (result_ev n l (by omega) (by omega)) (Ev.now _)) ?_
 simp only [if_true]
 exact Ev.now _
/-- the call comes to an end with something that meets P -/
def Got {α : Type} (g : Nat → Option α) (P : α → Prop) : Prop := ∃ r, Ev g r ∧ P r
theorem Got.now {α : Type} {P : α → Prop} (r : α) (h : P r) : Got (fun _ => some r) P := ⟨r, Ev.now r, h⟩
theorem Got.bind {α β : Type} {g : Nat → Option α} {f : Nat → α → Option β} {P : α → Prop} {Q : β → Prop} (h : Got g P) (k : ∀ a, P a → Got (fun n => f n a) Q) : Got (fun n => (g n).bind (f n)) Q := by
 obtain ⟨a, h, ha⟩ := h
 obtain ⟨r, k, hr⟩ := k a ha
 exact ⟨r, Ev.bind h k, hr⟩
theorem Got.mono {α : Type} {g : Nat → Option α} {P Q : α → Prop} (h : Got g P) (k : ∀ a, P a → Q a) : Got g Q := by
 obtain ⟨a, h, ha⟩ := h
 exact ⟨a, h, k a ha⟩
theorem Got.succ {α : Type} {g : Nat → Option α} {P : α → Prop} (h : Got (fun k => g (k + 1)) P) : Got g P := by
 obtain ⟨a, h, ha⟩ := h
 exact ⟨a, Ev.succ h, ha⟩
theorem Got.ite {α : Type} {p : Prop} [Decidable p] {f g : Nat → Option α} {P : α → Prop} (h1 : p → Got f P) (h2 : ¬ p → Got g P) : Got (fun k => if p then f k else g k) P := by
 by_cases h : p
 ·simpa [h] using h1 h
 ·simpa [h] using h2 h
theorem Got.iteb {α : Type} {b : Bool} {f g : Nat → Option α} {P : α → Prop} (h1 : b = true → Got f P) (h2 : b = false → Got g P) : Got (fun k => if b = true then f k else g k) P := by
 cases b with
 | true => simpa using h1 rfl
 | false => simpa using h2 rfl
theorem Got.ifp {α : Type} {p : Prop} [Decidable p] {f g : Nat → Option α} {P : α → Prop} (h : p) (h1 : Got f P) : Got (fun k => if p then f k else g k) P := by simpa [h] using h1
theorem Got.ifn {α : Type} {p : Prop} [Decidable p] {f g : Nat → Option α} {P : α → Prop} (h : ¬ p) (h1 : Got g P) : Got (fun k => if p then f k else g k) P := by simpa [h] using h1
theorem Got.one {α : Type} {o : Option α} {P : α → Prop} (h : ∃ r, o = some r ∧ P r) : Got (fun _ => o) P := by
 obtain ⟨r, h, hr⟩ := h
 exact ⟨r, ⟨0, fun _ _ => h⟩, hr⟩
theorem Got.ev {α : Type} {g : Nat → Option α} {r : α} {P : α → Prop} (h : Ev g r) (hr : P r) : Got g P := ⟨r, h, hr⟩
/-- a text of bytes -/
def Bytes (c : List Int) : Prop := c.length ≤ 1048576 ∧ ∀ x ∈ c, 0 ≤ x ∧ x ≤ 255
/-- how far a reader has come: at most so far -/
def Far (a : Int) (n : Nat) : Prop := 0 ≤ a ∧ a ≤ (n : Int)
theorem Far.zero : Far 0 0 := ⟨Int.le_refl _, Int.le_refl _⟩
theorem Far.le {a : Int} {n m : Nat} (h : Far a n) (hm : n ≤ m) : Far a m := ⟨h.1, by have := h.2; omega⟩
theorem and255 (x : Int) (h0 : 0 ≤ x) (h1 : x < 2 ^ 24) : Go.bits .and .u64 x 255 = x % 256 :=
 bits_mask .u64 24 (by decide) (fun n h0 h1 => by simp [IntKind.wrap, IntKind.bits, IntKind.signed]; omega) 8 (by decide) x h0 h1
theorem next_val (y : Int) : 0 ≤ wrap64 (Go.bits .and .u64 ((IntKind.u64.wrap y) / 1099511627776) 255) ∧ wrap64 (Go.bits .and .u64 ((IntKind.u64.wrap y) / 1099511627776) 255) ≤ 255 := by
 have e : IntKind.u64.wrap y = y % 18446744073709551616 := by simp [IntKind.wrap, IntKind.bits, IntKind.signed]
 rw [e, and255 _ (by omega) (by omega), wrap_in (by omega) (by omega)]
 omega
theorem next_got {c : List Int} {a s : Int} {n : Nat} (hc : Bytes c) (ha : Far a n) (hn : n ≤ 1000000000) : ∃ r, spec_l1Cur_next.f c a s = some r ∧ 0 ≤ r.1 ∧ r.1 ≤ 255 ∧ Far r.2.1 (n + 1) := by
 have hw : wrap64 (a + 1) = a + 1 := wrap_in (by have := ha.1; omega) (by have := ha.2; omega)
 have hf : Far (a + 1) (n + 1) := ⟨by have := ha.1; omega, by have := ha.2; omega⟩
 unfold spec_l1Cur_next.f
 rw [hw]
 by_cases h1 : a < (c.length : Int)
 ·rw [if_pos h1, if_pos ha.1]
  obtain ⟨j, rfl⟩ : ∃ j : Nat, a = j := ⟨a.toNat, by have := ha.1; omega⟩
  have hj : j < c.length := by omega
  have hb := hc.2 c[j] (List.getElem_mem hj)
  have hr : rd c (j : Int) = c[j] := rd_nat c j hj
  rw [hr, if_pos (by omega)]
  exact ⟨_, rfl, by rw [wrap_in (by omega) (by omega)]; exact hb.1, by rw [wrap_in (by omega) (by omega)]; exact hb.2, hf⟩
 ·rw [if_neg h1, if_neg (by omega)]
  exact ⟨_, rfl, (next_val _).1, (next_val _).2, hf⟩
theorem pick_got {c : List Int} {a s : Int} {n : Nat} (hc : Bytes c) (ha : Far a n) (hn : n ≤ 1000000000) (m : Int) (hm : m ≤ 200) : ∃ r, spec_l1Cur_pick.f c a s m = some r ∧ 0 ≤ r.1 ∧ (m ≤ 1 → r.1 = 0) ∧ (1 ≤ m → r.1 < m) ∧ Far r.2.1 (n + 1) := by
 unfold spec_l1Cur_pick.f
 by_cases h : m ≤ 1
 ·rw [if_pos h]; exact ⟨_, rfl, Int.le_refl _, fun _ => rfl, fun h => by simp only; omega, ha.le (by omega)⟩
 ·rw [if_neg h]
  obtain ⟨r, e, h0, h1, hf⟩ := next_got (s := s) hc ha hn
  rw [e, Option.bind_some, if_neg (by omega), if_neg (by omega)]
  exact ⟨_, rfl, Int.tmod_nonneg _ h0, fun h' => absurd h' h, fun _ => Int.tmod_lt_of_pos _ (by omega), hf⟩
theorem one_got {c : List Int} {a s : Int} {n : Nat} (hc : Bytes c) (ha : Far a n) (hn : n ≤ 1000000000) (m : Int) (hm : m ≤ 200) : ∃ r, spec_l1Cur_one.f c a s m = some r ∧ Far r.2.1 (n + 1) := by
 obtain ⟨r, e, _, _, _, hf⟩ := pick_got (s := s) hc ha hn m hm
 unfold spec_l1Cur_one.f
 rw [e]
 exact ⟨_, rfl, hf⟩
theorem among_got {c : List Int} {a s : Int} {n : Nat} (hc : Bytes c) (ha : Far a n) (hn : n ≤ 1000000000) (l : List Int) (hl : 1 ≤ l.length ∧ l.length ≤ 200) : ∃ r, spec_l1Cur_among.f c a s l = some r ∧ r.1 ∈ l ∧ Far r.2.1 (n + 1) := by
 obtain ⟨r, e, h0, _, h2, hf⟩ := pick_got (s := s) hc ha hn (l.length : Int) (by omega)
 have h3 := h2 (by omega)
 unfold spec_l1Cur_among.f
 rw [e, Option.bind_some, if_pos h0, if_pos h3]
 obtain ⟨j, hj⟩ : ∃ j : Nat, r.1 = j := ⟨r.1.toNat, by omega⟩
 have hj' : j < l.length := by omega
 refine ⟨_, rfl, ?_, hf⟩
 show rd l r.1 ∈ l
 rw [hj, rd_nat l j hj']
 exact List.getElem_mem hj'
theorem sure_l0 {c : List Int} (hc : Bytes c) (w : Int) (hw : 0 ≤ w ∧ w ≤ 200) (d : Nat) : ∀ (x a s : Int) (n : Nat) (l : List Int), x ≤ (d : Int) → Far a n → n + d ≤ 1000000 → l.length + d ≤ 1000000 →
  Got (fun k => spec_l1Cur_sureLadder.l0 k x c a s w l) (fun r => r.1 = w ∧ r.2.1.length ≤ l.length + d ∧ Far r.2.2.1 (n + d)) := by
 induction d with
 | zero =>
  intro x a s n l hx ha _ _
  refine Got.succ ?_
  simp only [spec_l1Cur_sureLadder.l0]
  refine Got.ifn (by omega) ?_
  exact Got.now _ ⟨rfl, Nat.le_refl _, ha⟩
 | succ d ih =>
  intro x a s n l hx ha hn hl
  refine Got.succ ?_
  simp only [spec_l1Cur_sureLadder.l0]
  by_cases h : x > 0
  ·simp only [h, if_true]
   refine Got.bind (Got.one (pick_got hc ha (by omega) (wrap64 (w - 1)) ?_)) (fun r hr => ?_)
   ·rw [wrap_in (by omega) (by omega)]; omega
   ·have hx1 : wrap64 (x - 1) = x - 1 := wrap_in (by omega) (by omega)
    rw [hx1]
    refine Got.ifp (by omega) ?_
    refine (ih (x - 1) _ _ (n + 1) _ (by omega) hr.2.2.2 (by omega) (by simp; omega)).mono (fun q hq => ?_)
    refine ⟨hq.1, ?_, hq.2.2.le (by omega)⟩
    have := hq.2.1
    simp at this
    omega
  ·simp only [h, if_false]
   exact Got.now _ ⟨rfl, by simp, ha.le (by omega)⟩
theorem sure_got {c : List Int} {a s : Int} {n : Nat} (hc : Bytes c) (ha : Far a n) (hn : n ≤ 500000) (w : Int) (m : Nat) (hw : 2 ≤ w ∧ w ≤ 100) (hm : m ≤ 100) : Got (fun k => spec_l1Cur_sureLadder.f k c a s w (m : Int)) (fun r => 2 ≤ r.1 ∧ r.1 ≤ w ∧ r.2.1.length ≤ m ∧ Far r.2.2.1 (n + 2 + m)) := by
 unfold spec_l1Cur_sureLadder.f
 have e1 : wrap64 (w - 1) = w - 1 := wrap_in (by omega) (by omega)
 have e2 : wrap64 ((m : Int) + 1) = (m : Int) + 1 := wrap_in (by omega) (by omega)
 rw [e1, e2]
 refine Got.bind (Got.one (pick_got hc ha (by omega) (w - 1) (by omega))) (fun r hr => ?_)
 obtain ⟨r0, r1, r2, rf⟩ := hr
 have r3 := r2 (by omega)
 refine Got.bind (Got.one (pick_got hc rf (by omega) ((m : Int) + 1) (by omega))) (fun q hq => ?_)
 obtain ⟨q0, q1, q2, qf⟩ := hq
 have q3 := q2 (by omega)
 have e3 : wrap64 (2 + r.1) = 2 + r.1 := wrap_in (by omega) (by omega)
 rw [e3]
 refine (sure_l0 hc (2 + r.1) (by omega) m q.1 q.2.1 q.2.2 (n + 1 + 1) [] (by omega) qf (by omega) (by simp; omega)).mono (fun z hz => ?_)
 obtain ⟨z1, z2, z3⟩ := hz
 simp at z2
 exact ⟨by omega, by omega, z2, z3.le (by omega)⟩
theorem ladder_got {c : List Int} {a s : Int} {n : Nat} (hc : Bytes c) (ha : Far a n) (hn : n ≤ 400000) : Got (fun k => spec_l1Cur_ladder.f k c a s) (fun r => r.2.1.length ≤ 62 ∧ Far r.2.2.1 (n + 20)) := by
 unfold spec_l1Cur_ladder.f
 refine Got.bind (sure_got hc ha (by omega) 6 12 (by omega) (by omega)) (fun r hr => ?_)
 obtain ⟨r1, r2, r3, rf⟩ := hr
 refine Got.bind (Got.one (pick_got hc rf (by omega) 16 (by omega))) (fun q hq => ?_)
 obtain ⟨q0, q1, q2, qf⟩ := hq
 refine Got.ite (fun _ => ?_) (fun _ => Got.ite (fun _ => ?_) (fun _ => Got.ite (fun _ => ?_) (fun _ => ?_)))
 ·refine Got.bind (Got.one (among_got hc qf (by omega) _ (by simp))) (fun z hz => ?_)
  refine Got.ifp (by omega) ?_
  exact Got.now _ ⟨by simp; omega, hz.2.le (by omega)⟩
 ·refine Got.bind (Got.one (among_got hc qf (by omega) _ (by simp))) (fun z hz => ?_)
  exact Got.now _ ⟨by simp only; omega, hz.2.le (by omega)⟩
 ·refine Got.bind (Got.one (pick_got hc qf (by omega) 2 (by omega))) (fun z hz => ?_)
  obtain ⟨z0, z1, z2, zf⟩ := hz
  have z3 := z2 (by omega)
  have e : wrap64 (60 + z.1) = 60 + z.1 := wrap_in (by omega) (by omega)
  rw [e]
  refine Got.ifp (by omega) (Got.ifp (by omega) ?_)
  exact Got.now _ ⟨by rw [List.length_replicate]; omega, zf.le (by omega)⟩
 ·exact Got.now _ ⟨by simp only; omega, qf.le (by omega)⟩
theorem wire_got {c : List Int} {p s : Int} {n : Nat} (hc : Bytes c) (hp : Far p n) (hn : n ≤ 400000) (a : Int) (l : List Int) : Got (fun k => spec_l1Cur_wire.f k c p s a l) (fun _ => True) := by
 have j0 : ∀ (b : Bool) (p s : Int) (n : Nat), Far p n → n ≤ 400001 → (b = false → a ≤ 200) → Got (fun k => spec_l1Cur_wire.j0 k b c p s a l) (fun _ => True) := by
  intro b p s n hp hn hb
  refine Got.succ ?_
  simp only [spec_l1Cur_wire.j0]
  refine Got.iteb (fun _ => ?_) (fun e => ?_)
  ·refine Got.bind (Got.one (among_got hc hp (by omega) _ (by simp))) (fun r _ => Got.now _ trivial)
  ·refine Got.bind (Got.one (pick_got hc hp (by omega) a (hb e))) (fun r _ => Got.now _ trivial)
 unfold spec_l1Cur_wire.f
 refine Got.ite (fun _ => j0 true p s n hp (by omega) (fun e => by cases e)) (fun h1 => Got.ite (fun _ => j0 true p s n hp (by omega) (fun e => by cases e)) (fun h2 => ?_))
 exact Got.bind (Got.one (one_got hc hp (by omega) 14 (by omega))) (fun r rf => j0 r.1 _ _ (n + 1) rf (by omega) (fun _ => by omega))
theorem drawTakeStart_got {c : List Int} (hc : Bytes c) : Got (fun k => spec_DrawTakeStart.f k c) (fun r => r.2.1.length ≤ 62) := by
 unfold spec_DrawTakeStart.f spec_DrawEndOf.f
 refine Got.bind (P := fun r : Int × List Int × Int => r.2.1.length ≤ 62) ?_ (fun r hr => Got.now _ hr)
 refine Got.bind (ladder_got hc Far.zero (by omega)) (fun q hq => ?_)
 exact Got.bind (wire_got hc hq.2 (by omega) q.1 q.2.1) (fun r _ => Got.now _ hq.1)
theorem rising_end {c : List Int} (hc : Bytes c) (a : Int) (x : List Int) (j : Int) (p s : Int) (n : Nat) (hp : Far p n) (hn : n ≤ 500000) (hx : x.length ≤ 100) : Got (fun k => spec_l1Cur_rising.j1 k a x j false c p s) (fun r => r.1.length ≤ 101) := by
 refine Got.succ ?_
 simp only [spec_l1Cur_rising.j1, Bool.false_eq_true, if_false]
 refine Got.bind (Got.one (one_got hc hp (by omega) 12 (by omega))) (fun r rf => ?_)
 refine Got.iteb (fun _ => ?_) (fun _ => Got.now _ (by simp only; omega))
 refine Got.bind (Got.one (among_got hc rf (by omega) _ (by simp))) (fun q _ => ?_)
 refine Got.ifp (by omega) (Got.now _ (by simp; omega))
theorem rising_l0 {c : List Int} (hc : Bytes c) (a : Int) (d : Nat) : ∀ (j : Nat) (x : List Int) (p s : Int) (n : Nat), j + d = 12 → x.length ≤ j → Far p n → n + d ≤ 500000 → Got (fun k => spec_l1Cur_rising.l0 k a x (j : Int) c p s) (fun r => r.1.length ≤ 101) := by
 induction d with
 | zero =>
  intro j x p s n hj hx hp hn
  refine Got.succ ?_
  have e : decide ((j : Int) < 12) = false := by simp; omega
  simp only [spec_l1Cur_rising.l0, e]
  refine Got.ite (fun _ => rising_end hc a x _ p s n hp (by omega) (by omega)) (fun _ => rising_end hc a x _ p s n hp (by omega) (by omega))
 | succ d ih =>
  intro j x p s n hj hx hp hn
  refine Got.succ ?_
  have e : decide ((j : Int) < 12) = true := by simp; omega
  simp only [spec_l1Cur_rising.l0, e]
  refine Got.ite (fun _ => ?_) (fun _ => rising_end hc a x _ p s n hp (by omega) (by omega))
  refine Got.succ ?_
  simp only [spec_l1Cur_rising.j1, if_true, wrap_nat j 1000 (by omega) (by omega)]
  refine Got.bind (Got.one (one_got hc hp (by omega) 2 (by omega))) (fun r rf => ?_)
  refine Got.iteb (fun _ => ?_) (fun _ => ?_)
  ·exact Got.ifp (by omega) (ih (j + 1) _ _ _ (n + 1) (by omega) (by simp; omega) rf (by omega))
  ·exact ih (j + 1) _ _ _ (n + 1) (by omega) (by omega) rf (by omega)
theorem drawKeepStarts_got {c : List Int} (hc : Bytes c) : Got (fun k => spec_DrawKeepStarts.f k c) (fun r => r.2.1.length ≤ 62 ∧ r.2.2.length ≤ 101) := by
 unfold spec_DrawKeepStarts.f spec_l1Cur_rising.f
 refine Got.bind (ladder_got hc Far.zero (by omega)) (fun q hq => ?_)
 refine Got.bind (rising_l0 hc q.1 12 0 [] _ _ _ (by omega) (by simp) hq.2 (by omega)) (fun r hr => Got.now _ ⟨hq.1, hr⟩)
theorem split_l0 {c : List Int} (x : Int) (xs : List Int) (hxs : xs.length ≤ 62) (a : Int) (l : List Int) (p s : Int) (n : Nat) (hp : Far p n) (d : Nat) : ∀ (j : Nat) (acc : List Int), j + d = xs.length → acc.length ≤ j → Got (fun k => spec_l1Cur_splitLadder.l0 k x acc xs (xs.length : Int) (j : Int) c p s a l) (fun r => r.2.1.length ≤ 62 ∧ Far r.2.2.1 n) := by
 induction d with
 | zero =>
  intro j acc hj hacc
  refine Got.succ ?_
  simp only [spec_l1Cur_splitLadder.l0]
  exact Got.ifn (by omega) (Got.now _ ⟨by simp only; omega, hp⟩)
 | succ d ih =>
  intro j acc hj hacc
  refine Got.succ ?_
  simp only [spec_l1Cur_splitLadder.l0, wrap_nat j 1000 (by omega) (by omega)]
  refine Got.ifp (by omega) (Got.ifp (by omega) (Got.ifp (by omega) (Got.ite (fun _ => ih (j + 1) acc (by omega) (by omega)) (fun _ => Got.ifp (by omega) (ih (j + 1) _ (by omega) (by simp; omega))))))
theorem split_got {c : List Int} {p s : Int} {n : Nat} (hc : Bytes c) (hp : Far p n) (hn : n ≤ 300000) : Got (fun k => spec_l1Cur_splitLadder.f k c p s) (fun r => r.2.1.length ≤ 62 ∧ Far r.2.2.1 (n + 30)) := by
 unfold spec_l1Cur_splitLadder.f
 refine Got.bind (ladder_got hc hp (by omega)) (fun q hq => ?_)
 have no : ∀ p s : Int, Far p (n + 30) → Got (fun k => spec_l1Cur_splitLadder.j0 k false c p s q.1 q.2.1) (fun r => r.2.1.length ≤ 62 ∧ Far r.2.2.1 (n + 30)) := by
  intro p s hp
  refine Got.succ ?_
  simp only [spec_l1Cur_splitLadder.j0, Bool.false_eq_true, if_false]
  exact Got.now _ ⟨hq.1, hp⟩
 refine Got.bind (Got.ev (P := fun b => b = isLadderB q.1 q.2.1) (laGood_ev _ _) rfl) (fun b hb => ?_)
 subst hb
 refine Got.iteb (fun hg => ?_) (fun _ => no _ _ (hq.2.le (by omega)))
 have hl := (isLadderB_iff _ _).1 hg
 refine Got.bind (Got.one (one_got hc hq.2 (by omega) 3 (by omega))) (fun r rf => ?_)
 cases hr : r.1 with
 | true => exact no _ _ (rf.le (by omega))
 | false =>
  refine Got.succ ?_
  simp only [spec_l1Cur_splitLadder.j0, Bool.not_false, if_true]
  rw [wrap_in (by omega) (by omega)]
  refine Got.bind (Got.one (pick_got hc rf (by omega) _ (by omega))) (fun z hz => ?_)
  exact split_l0 z.1 q.2.1 hq.1 q.1 q.2.1 _ _ (n + 30) (hz.2.2.2.le (by omega)) q.2.1.length 0 [] (by omega) (by simp)
theorem drawPutWire_got {c : List Int} (hc : Bytes c) : Got (fun k => spec_DrawPutWire.f k c) (fun r => r.2.1.length ≤ 62) := by
 unfold spec_DrawPutWire.f
 refine Got.bind (split_got hc Far.zero (by omega)) (fun q hq => ?_)
 refine Got.bind (Got.one (pick_got hc hq.2 (by omega) 8 (by omega))) (fun r hr => ?_)
 refine Got.bind (Got.one (pick_got hc hr.2.2.2 (by omega) 9 (by omega))) (fun z hz => Got.now _ hq.1)
theorem drawBeside_got {c : List Int} (hc : Bytes c) : Got (fun k => spec_DrawBesideLadders.f k c) (fun r => r.2.1.length ≤ 62 ∧ r.2.2.2.length ≤ 62) := by
 unfold spec_DrawBesideLadders.f
 refine Got.bind (sure_got hc Far.zero (by omega) 5 8 (by omega) (by omega)) (fun q hq => ?_)
 refine Got.bind (sure_got hc hq.2.2.2 (by omega) 5 8 (by omega) (by omega)) (fun r hr => Got.now _ ⟨by simp only; omega, by simp only; omega⟩)
theorem drawDouble_got {c : List Int} (hc : Bytes c) : Got (fun k => spec_DrawDoubleLadder.f k c) (fun r => r.2.length ≤ 62) := by
 unfold spec_DrawDoubleLadder.f
 refine Got.bind (Got.one (one_got hc Far.zero (by omega) 6 (by omega))) (fun r rf => ?_)
 refine Got.iteb (fun _ => ?_) (fun _ => ?_)
 ·exact Got.bind (ladder_got hc rf (by omega)) (fun q hq => Got.now _ hq.1)
 ·exact Got.bind (sure_got hc rf (by omega) 4 16 (by omega) (by omega)) (fun q hq => Got.now _ (by simp only; omega))
theorem big_ev (a b : List Int) (ha : a.length ≤ maxLen) (hb : b.length ≤ maxLen) : ∃ t, laws_big.f a b = some t ∧ (t = false → a.length ≤ 1048576 ∧ b.length ≤ 1048576) := by
 unfold maxLen at ha hb
 unfold laws_big.f
 by_cases h : (a.length : Int) > 1048576
 ·rw [if_pos h]; exact ⟨true, rfl, fun e => by cases e⟩
 ·rw [if_neg h]
  refine ⟨_, rfl, fun e => ?_⟩
  have := of_decide_eq_false e
  rw [wrap_in (by omega) (by omega)] at this
  omega
theorem bytes_of {c : List Int} (h : ∀ x ∈ c, (Lit.int .u8 x).wf = true) : ∀ x ∈ c, 0 ≤ x ∧ x ≤ 255 := by
 intro x hx
 have := h x hx
 simp [Lit.wf, IntKind.min, IntKind.max, IntKind.signed, IntKind.bits] at this
 omega
theorem MeetingsOf_ev (n : Nat) (l : List Int) (a b : Nat) (h : isLadderB (n : Int) l = true) (ha : a < n) (hb : b < n) : Ev (fun k => impl_MeetingsOf.f k (n : Int) l (a : Int) (b : Int)) (if a = b then (0, false) else (((mtc (a : Int) (b : Int) l : Nat) : Int), true)) := by
 have hl := (isLadderB_iff _ l).1 h
 have e1 : wrap64 ((n : Int) - 1) = (n : Int) - 1 := wrap_in (by omega) (by omega)
 have ia : inB (a : Int) 0 ((n : Int) - 1) = true := by simp [inB]; omega
 have ib : inB (b : Int) 0 ((n : Int) - 1) = true := by simp [inB]; omega
 unfold impl_MeetingsOf.f impl_hasWire.f impl_isLadder.f
 simp only [Option.bind_some, h, if_true, btw_f, e1, ia, ib]
 refine Ev.succ ?_
 simp only [impl_MeetingsOf.j0]
 by_cases hab : a = b
 ·have c : ((a : Int) == (b : Int)) = true := by simp [hab]
  rw [if_pos hab]
  simp only [c, if_true]
  exact Ev.now _
 ·have c : ((a : Int) == (b : Int)) = false := by simp; omega
  rw [if_neg hab]
  simp only [c, Bool.false_eq_true, if_false]
  refine Ev.bind (way_ev _ l _ (by omega)) ?_
  refine Ev.bind (way_ev _ l _ (by omega)) ?_
  have key := Ev.inv (σ := Int) (L := fun k j s => impl_MeetingsOf.l0 k (downs (a : Int) l) (downs (b : Int) l) s (l.length : Int) (j : Int)) (r := (((mtc (a : Int) (b : Int) l : Nat) : Int), true)) (n := l.length)
   (Inv := fun j s => s = ((mtc (a : Int) (b : Int) (l.take j) : Nat) : Int))
   (fun s hs => by
    subst hs
    refine Ev.succ (Ev.ret fun k => ?_)
    rw [impl_MeetingsOf.l0, if_neg (by omega), List.take_length])
   (fun j s hj hs ih => by
    subst hs
    refine Ev.succ ?_
    have h1 : (j : Int) < (l.length : Int) := by omega
    have h0 : (0 : Int) ≤ (j : Int) := by omega
    have h2 : (0 : Int) ≤ ((j + 1 : Nat) : Int) := by omega
    have h3 : ∀ w : Int, (j : Int) < ((downs w l).length : Int) := fun w => by rw [downs_length]; omega
    have h4 : ∀ w : Int, ((j + 1 : Nat) : Int) < ((downs w l).length : Int) := fun w => by rw [downs_length]; omega
    have hm := mtc_le (l.take j) (a : Int) (b : Int)
    rw [List.length_take] at hm
    have gc : wrap64 (((mtc (a : Int) (b : Int) (l.take j) : Nat) : Int) + 1) = ((mtc (a : Int) (b : Int) (l.take j) + 1 : Nat) : Int) := wrap_nat _ (mtc (a : Int) (b : Int) (l.take j) + 1) (by omega) (by omega)
    simp only [impl_MeetingsOf.l0, h1, h0, h2, h3, h4, if_true, wrap_nat j _ hj (by omega), gc, rd_downs l _ j (by omega), rd_downs l _ (j + 1) (by omega)]
    have e1 : ∀ w, endOf w (l.take (j + 1)) = ovr (endOf w (l.take j)) l[j] := fun w => by rw [take_snoc l j hj, endOf_snoc]
    have e3 := mtc_snoc (l.take j) l[j] (a : Int) (b : Int)
    rw [← take_snoc l j hj] at e3
    simp only [e1]
    refine Ev.ite (fun c1 => ?_) (fun c1 => ?_)
    ·refine Ev.ite (fun c2 => ?_) (fun c2 => ?_)
     ·rw [if_pos ⟨c2.symm, c1.symm⟩] at e3
      exact ih _ (by rw [e3])
     ·rw [if_neg (fun c => c2 c.1.symm)] at e3
      exact ih _ (by rw [e3]; rfl)
    ·rw [if_neg (fun c => c1 c.2.symm)] at e3
     exact ih _ (by rw [e3]; rfl))
  exact key 0 0 (Nat.zero_le _) rfl
theorem st_j7 {c : List Int} (hc : Bytes c) : Ev (fun k => laws_FnStartsTaken.j7 k c) true := by
 refine Ev.succ ?_
 simp only [laws_FnStartsTaken.j7]
 obtain ⟨⟨a, l⟩, hd, _⟩ := drawDouble_got hc
 refine Ev.bind hd ?_
 obtain ⟨hs, hi, hlen⟩ := DoubleLadder_vals a l
 refine Ev.bind hi (Ev.bind hs ?_)
 simp only [bne_self_eq_false, Bool.false_eq_true, if_false]
 refine Ev.bind (kLadder_refl _ _ (by omega)) ?_
 simp only [if_true]
 refine Ev.iteb (fun h => ?_) (fun _ => Ev.now _)
 have hg : isLadderB a l = true := by
  by_cases g : isLadderB a l = true
  ·exact g
  ·rw [show dblV a l = (0, [], false) from if_neg g] at h; cases h
 have hv : dblV a l = ifLadder (wrap64 (2 * a)) (l.flatMap dbl) := if_pos hg
 have hl0 := (isLadderB_iff a l).1 hg
 obtain ⟨n, rfl⟩ : ∃ n : Nat, a = n := ⟨a.toNat, by omega⟩
 have hl := ladder_ok hg
 have e2 : wrap64 (2 * (n : Int)) = ((2 * n : Nat) : Int) := by unfold wrap64; omega
 rw [hv, e2] at h
 have hg2 : isLadderB ((2 * n : Nat) : Int) (l.flatMap dbl) = true := by
  by_cases g : isLadderB ((2 * n : Nat) : Int) (l.flatMap dbl) = true
  ·exact g
  ·unfold ifLadder at h; rw [if_neg g] at h; cases h
 have hv2 : ifLadder ((2 * n : Nat) : Int) (l.flatMap dbl) = (((2 * n : Nat) : Int), l.flatMap dbl, true) := if_pos hg2
 rw [hv, e2, hv2]
 have hl2 := ladder_ok hg2
 refine Ev.bind (kResult_ev n l hg) (Ev.bind (kResult_ev (2 * n) _ hg2) ?_)
 have key := Ev.upto (L := fun k j (_ : Unit) => laws_FnStartsTaken.l4 k (res (2 * n) (l.flatMap dbl)) (res n l) ((res n l).length : Int) (j : Int) (n : Int) l ((2 * n : Nat) : Int) (l.flatMap dbl)) (R := fun _ _ => true) (n := (res n l).length)
  (fun _ => by
   refine Ev.succ (Ev.ret fun k => ?_)
   have e4 : wrap64 (4 * (l.length : Int)) = ((4 * l.length : Nat) : Int) := by unfold wrap64; omega
   rw [laws_FnStartsTaken.l4, if_neg (by omega), dbl_length, e4]
   simp)
  (fun j _ hj ih => by
   rw [res_length] at hj
   refine Ev.succ ?_
   have g1 : (j : Int) < ((res n l).length : Int) := by rw [res_length]; omega
   have g0 : (0 : Int) ≤ (j : Int) := by omega
   have w1 : wrap64 (2 * (j : Int)) = ((2 * j : Nat) : Int) := by unfold wrap64; omega
   have w2 : wrap64 (((2 * j : Nat) : Int) + 1) = ((2 * j + 1 : Nat) : Int) := by unfold wrap64; omega
   have g2 : (0 : Int) ≤ ((2 * j : Nat) : Int) := by omega
   have g3 : ((2 * j : Nat) : Int) < ((res (2 * n) (l.flatMap dbl)).length : Int) := by rw [res_length]; omega
   have g4 : (0 : Int) ≤ ((2 * j + 1 : Nat) : Int) := by omega
   have g5 : ((2 * j + 1 : Nat) : Int) < ((res (2 * n) (l.flatMap dbl)).length : Int) := by rw [res_length]; omega
   have d := dbl_end (n := n) (by omega) l (j : Int) hl.2.2.2
   have hb := endOf_lt l (n := n) (by omega) (j : Int) (by omega) (by omega) hl.2.2.2
   have r1 : rd (res (2 * n) (l.flatMap dbl)) ((2 * j : Nat) : Int) = 2 * endOf (j : Int) l := by rw [rd_res _ _ _ (by omega), ← d.1]; congr 1
   have r2 : rd (res (2 * n) (l.flatMap dbl)) ((2 * j + 1 : Nat) : Int) = 2 * endOf (j : Int) l + 1 := by rw [rd_res _ _ _ (by omega), ← d.2]; congr 1
   have w3 : wrap64 (2 * endOf (j : Int) l) = 2 * endOf (j : Int) l := wrap_in (by omega) (by omega)
   have w4 : wrap64 (2 * endOf (j : Int) l + 1) = 2 * endOf (j : Int) l + 1 := wrap_in (by omega) (by omega)
   simp only [laws_FnStartsTaken.l4, g1, g0, w1, w2, g2, g3, g4, g5, if_true, rd_res n l j hj, r1, r2, w3, w4, wrap_nat j n hj (by omega)]
   exact ih ())
 exact key 0 () (Nat.zero_le _)
theorem st_j5 {c : List Int} (hc : Bytes c) : Ev (fun k => laws_FnStartsTaken.j5 k c) true := by
 refine Ev.succ ?_
 simp only [laws_FnStartsTaken.j5]
 obtain ⟨⟨a, l, b, m⟩, hd, _⟩ := drawBeside_got hc
 refine Ev.bind hd ?_
 obtain ⟨hs, hi, hlen⟩ := BesideLadders_vals a l b m
 refine Ev.bind hi (Ev.bind hs ?_)
 simp only [bne_self_eq_false, Bool.false_eq_true, if_false]
 refine Ev.bind (kLadder_refl _ _ (by omega)) ?_
 simp only [if_true]
 refine Ev.iteb (fun h => ?_) (fun _ => st_j7 hc)
 have hg : isLadderB a l = true ∧ isLadderB b m = true := by
  by_cases g : isLadderB a l = true ∧ isLadderB b m = true
  ·exact g
  ·rw [show besV a l b m = (0, [], false) from if_neg g] at h; cases h
 have hv : besV a l b m = ifLadder (wrap64 (a + b)) (besideR a l m) := if_pos hg
 have hl0 := (isLadderB_iff a l).1 hg.1
 have hm0 := (isLadderB_iff b m).1 hg.2
 obtain ⟨na, rfl⟩ : ∃ n : Nat, a = n := ⟨a.toNat, by omega⟩
 obtain ⟨nb, rfl⟩ : ∃ n : Nat, b = n := ⟨b.toNat, by omega⟩
 have hl := ladder_ok hg.1
 have hm := ladder_ok hg.2
 have e2 : wrap64 ((na : Int) + (nb : Int)) = ((na + nb : Nat) : Int) := by unfold wrap64; omega
 rw [hv, e2] at h
 have hg2 : isLadderB ((na + nb : Nat) : Int) (besideR na l m) = true := by
  by_cases g : isLadderB ((na + nb : Nat) : Int) (besideR na l m) = true
  ·exact g
  ·unfold ifLadder at h; rw [if_neg g] at h; cases h
 have hv2 : ifLadder ((na + nb : Nat) : Int) (besideR na l m) = (((na + nb : Nat) : Int), besideR na l m, true) := if_pos hg2
 rw [hv, e2, hv2]
 have hl2 := ladder_ok hg2
 have hsp : Ev (fun k => impl_IsSplit.f k ((na + nb : Nat) : Int) (besideR na l m) (na : Int)) (true, true) := by
  have ew : wrap64 (((na + nb : Nat) : Int) - 1) = ((na + nb : Nat) : Int) - 1 := wrap_in (by omega) (by omega)
  have ew2 : wrap64 ((na : Int) - 1) = (na : Int) - 1 := wrap_in (by omega) (by omega)
  have hin : inB (na : Int) 1 (((na + nb : Nat) : Int) - 1) = true := (inB_iff _ _ _).2 (by omega)
  unfold impl_IsSplit.f impl_isLadder.f impl_isSplit.f
  simp only [Option.bind_some, btw_f, hg2, ew, ew2, hin, if_true]
  refine Ev.bind (Ev.bind (Contains_ev _ _ (by omega)) (Ev.now _)) ?_
  have hno := beside_split (a := na) (b := nb) (by omega) (by omega) l m hl.2.2.2 hm.2.2.2
  simp only [decide_eq_false hno]
  exact Ev.now _
 refine Ev.bind hsp (Ev.bind (kResult_ev (na + nb) _ hg2) (Ev.bind (kResult_ev na l hg.1) (Ev.bind (kResult_ev nb m hg.2) ?_)))
 have el : (((res (na + nb) (besideR na l m)).length : Nat) : Int) = wrap64 (((res na l).length : Int) + ((res nb m).length : Int)) := by rw [res_length, res_length, res_length]; unfold wrap64; omega
 simp only [if_true, el]
 rw [← el]
 have key := Ev.upto (L := fun k j (_ : Unit) => laws_FnStartsTaken.l3 k c (res na l) (res nb m) (res (na + nb) (besideR na l m)) ((res (na + nb) (besideR na l m)).length : Int) (j : Int)) (R := fun _ _ => true) (n := (res (na + nb) (besideR na l m)).length)
  (fun _ => by
   refine Ev.succ ?_
   have g : ¬ (((res (na + nb) (besideR na l m)).length : Nat) : Int) < ((res (na + nb) (besideR na l m)).length : Int) := by omega
   simp only [laws_FnStartsTaken.l3, g, if_false]
   exact st_j7 hc)
  (fun j _ hj ih => by
   rw [res_length] at hj
   refine Ev.succ ?_
   have g1 : (j : Int) < ((res (na + nb) (besideR na l m)).length : Int) := by rw [res_length]; omega
   have g0 : (0 : Int) ≤ (j : Int) := by omega
   have eq : ((res na l).length : Int) = (na : Int) := by rw [res_length]
   have er : ((res nb m).length : Int) = (nb : Int) := by rw [res_length]
   simp only [laws_FnStartsTaken.l3, g1, g0, if_true, eq, er, rd_res (na + nb) (besideR na l m) j hj, wrap_nat j (na + nb) hj (by omega)]
   by_cases c1 : j < na
   ·have c2 : (j : Int) < (na : Int) := by omega
    have c3 : ¬ (j : Int) ≥ (na : Int) := by omega
    simp only [c2, c3, if_true, if_false, rd_res na l j c1, beside_low (a := na) (b := nb) (by omega) l m hl.2.2.2 hm.2.2.2 j c1]
    exact ih ()
   ·have c2 : ¬ (j : Int) < (na : Int) := by omega
    have c3 : (j : Int) ≥ (na : Int) := by omega
    obtain ⟨i, rfl⟩ : ∃ i, j = na + i := ⟨j - na, by omega⟩
    have hi : i < nb := by omega
    have w1 : wrap64 (((na + i : Nat) : Int) - (na : Int)) = (i : Int) := by unfold wrap64; omega
    have g2 : (0 : Int) ≤ (i : Int) := by omega
    have g3 : (i : Int) < (nb : Int) := by omega
    have hb := endOf_lt m (n := nb) (by omega) (i : Int) (by omega) (by omega) hm.2.2.2
    have w2 : wrap64 ((na : Int) + endOf (i : Int) m) = (na : Int) + endOf (i : Int) m := wrap_in (by omega) (by omega)
    simp only [c2, c3, w1, g2, g3, if_true, if_false, rd_res nb m i hi, w2, beside_high (a := na) (b := nb) (by omega) l m hl.2.2.2 hm.2.2.2 i hi]
    exact ih ())
 exact key 0 () (Nat.zero_le _)
theorem st_j4 {c : List Int} (hc : Bytes c) : Ev (fun k => laws_FnStartsTaken.j4 k c) true := by
 refine Ev.succ ?_
 simp only [laws_FnStartsTaken.j4]
 obtain ⟨⟨a, l, x⟩, hd, _⟩ := drawPutWire_got hc
 refine Ev.bind hd ?_
 obtain ⟨hs, hi, hlen⟩ := PutWire_vals a l x
 refine Ev.bind hi (Ev.bind hs ?_)
 simp only [bne_self_eq_false, Bool.false_eq_true, if_false]
 refine Ev.bind (kLadder_refl _ _ (by omega)) ?_
 simp only [if_true]
 refine Ev.iteb (fun h => ?_) (fun _ => st_j5 hc)
 have hg : isLadderB a l = true ∧ inB x 0 a = true ∧ ¬ (wrap64 (x - 1) ∈ l) := by
  by_cases g : isLadderB a l = true ∧ inB x 0 a = true ∧ ¬ (wrap64 (x - 1) ∈ l)
  ·exact g
  ·rw [show putV a l x = (0, [], false) from if_neg g] at h; cases h
 have hv : putV a l x = ifLadder (wrap64 (a + 1)) (l.map (moved x)) := if_pos hg
 obtain ⟨hg1, hx, hno⟩ := hg
 have hl0 := (isLadderB_iff a l).1 hg1
 have hx' := (inB_iff _ _ _).1 hx
 rw [wrap_in (by omega) (by omega)] at hno
 obtain ⟨n, rfl⟩ : ∃ n : Nat, a = n := ⟨a.toNat, by omega⟩
 have hl := ladder_ok hg1
 have e2 : wrap64 ((n : Int) + 1) = ((n + 1 : Nat) : Int) := by unfold wrap64; omega
 rw [hv, e2] at h
 have hg2 : isLadderB ((n + 1 : Nat) : Int) (l.map (moved x)) = true := by
  by_cases g : isLadderB ((n + 1 : Nat) : Int) (l.map (moved x)) = true
  ·exact g
  ·unfold ifLadder at h; rw [if_neg g] at h; cases h
 have hv2 : ifLadder ((n + 1 : Nat) : Int) (l.map (moved x)) = (((n + 1 : Nat) : Int), l.map (moved x), true) := if_pos hg2
 rw [hv, e2, hv2]
 have hl2 := ladder_ok hg2
 have hend := EndOf_ev hg2 x hx'.1 (by omega)
 rw [put_end (n := n) (by omega) l hl.2.2.2 hno] at hend
 have htk : takeV ((n + 1 : Nat) : Int) (l.map (moved x)) x = ((n : Int), l, true) := by
  have ew : wrap64 (((n + 1 : Nat) : Int) - 1) = (n : Int) := by unfold wrap64; omega
  unfold takeV
  rw [if_pos hg2, ew, if_pos ((inB_iff _ _ _).2 (by omega)), if_neg (by omega), put_take (n := n) (by omega) l hl.2.2.2 hno]
 have ht := (TakeStart_vals ((n + 1 : Nat) : Int) (l.map (moved x)) x).2.1
 rw [htk] at ht
 refine Ev.bind hend (Ev.bind ht (Ev.bind (StaysOn_ev hg2) ?_))
 simp only [if_true]
 refine Ev.bind (kLadder_refl _ _ (by omega)) ?_
 simp only [if_true]
 have hmem : x ∈ selL (fun j => ((chg (downs (j : Int) (l.map (moved x))) 0 (l.map (moved x)).length : Nat) : Int) == 0) (n + 1) := by
  refine (selL_mem _ _ _).2 ⟨x.toNat, by omega, by omega, ?_⟩
  have ex : ((x.toNat : Nat) : Int) = x := by omega
  simp only [ex, put_chg (n := n) (by omega) l hl.2.2.2 hno]
  rfl
 have hsl := selL_length (fun j => ((chg (downs (j : Int) (l.map (moved x))) 0 (l.map (moved x)).length : Nat) : Int) == 0) (n + 1)
 refine Ev.bind (kHas_yes _ x (by omega) hmem) ?_
 simp only [if_true]
 exact st_j5 hc
theorem st_j3 {c : List Int} (hc : Bytes c) : Ev (fun k => laws_FnStartsTaken.j3 k c) true := by
 refine Ev.succ ?_
 simp only [laws_FnStartsTaken.j3]
 obtain ⟨⟨a, l, s⟩, hd, hdl⟩ := drawKeepStarts_got hc
 simp only at hdl
 refine Ev.bind hd ?_
 obtain ⟨hs, hi, hlen⟩ := KeepStarts_vals a l s (by omega)
 refine Ev.bind hi (Ev.bind hs ?_)
 simp only [bne_self_eq_false, Bool.false_eq_true, if_false]
 refine Ev.bind (kLadder_refl _ _ (by omega)) ?_
 simp only [if_true]
 refine Ev.iteb (fun h => ?_) (fun _ => st_j4 hc)
 have hg : isLadderB a l = true ∧ ¬ (s.length : Int) < 2 ∧ risingB s a = true := by
  by_cases g : isLadderB a l = true ∧ ¬ (s.length : Int) < 2 ∧ risingB s a = true
  ·exact g
  ·rw [show keepV a l s = (0, [], false) from if_neg g] at h; cases h
 have hv : keepV a l s = ((s.length : Int), keepL s a.toNat l, true) := if_pos hg
 obtain ⟨hg1, hs2, hr⟩ := hg
 have hl0 := (isLadderB_iff a l).1 hg1
 obtain ⟨n, rfl⟩ : ∃ n : Nat, a = n := ⟨a.toNat, by omega⟩
 have hl := ladder_ok hg1
 have en : ((n : Int)).toNat = n := by omega
 rw [en] at hv
 have hpw := rising_pw hr
 have hin : ∀ x ∈ s, 0 ≤ x ∧ x < (n : Int) := fun x hx => by obtain ⟨i, hi, rfl⟩ := mem_rd hx; exact rising_in hr (by omega) (by omega) i hi
 have hk := kept_pat (n := n) (by omega) s l hl.2.2.2 hpw hin
 have hsn : s.length ≤ n := by have := nW_le n (fun y => decide ((y : Int) ∈ s)) 0; rw [nW_mem hpw hin] at this; exact this
 have hkl := keepL_length s n l
 have hg2 : isLadderB ((s.length : Nat) : Int) (keepL s n l) = true := ok_ladder (by omega) (by omega) (by omega) hk.2
 rw [hv]
 refine Ev.bind (kResult_ev n l hg1) ?_
 refine Ev.bind (PatternOf_ev (by omega) (by omega) l hl.2.2.2 s (by omega) (fun e => by rw [e] at hs2; simp at hs2) hr) ?_
 simp only [if_true]
 refine Ev.bind (kResult_ev s.length _ hg2) ?_
 rw [hk.1]
 refine Ev.bind (kSame_refl _ (by simp [patL]; omega)) ?_
 simp only [if_true]
 exact st_j4 hc
theorem st_l2 {n s : Nat} {l : List Int} (hg : isLadderB n l = true) (h3 : 3 ≤ n) (hs : s < n) (hg2 : isLadderB ((n - 1 : Nat) : Int) (tk s l) = true) (c : List Int) (i : Nat) (hi : i < (oth s n).length) (N : Int)
  (cont : Ev (fun k => laws_FnStartsTaken.l1 k c (oth s n) (oth s n) N ((i + 1 : Nat) : Int) (n : Int) l ((n - 1 : Nat) : Int) (tk s l)) true) :
  Ev (fun k => laws_FnStartsTaken.l2 k c (oth s n) (i : Int) (rd (oth s n) (i : Int)) (oth s n) N (i : Int) ((oth s n).take i) ((((oth s n).take i).length : Nat) : Int) 0 (n : Int) l ((n - 1 : Nat) : Int) (tk s l)) true := by
 obtain ⟨hlen, hget⟩ := oth_get s n
 rw [if_neg (by omega)] at hlen
 have hl := ladder_ok hg
 have htl : ((oth s n).take i).length = i := by rw [List.length_take]; omega
 have hrd : ∀ j : Nat, j < (oth s n).length → rd (oth s n) (j : Int) = (if j < s then (j : Int) else (j : Int) + 1) := fun j hj => by
  have := hget j hj
  rw [rd_nat _ j hj]
  rw [List.getElem?_eq_getElem hj] at this
  exact Option.some.inj this
 have hrt : ∀ j : Nat, j < i → rd ((oth s n).take i) (j : Int) = (if j < s then (j : Int) else (j : Int) + 1) := fun j hj => by
  rw [← hrd j (by omega), rd_nat _ j (by omega), rd_nat _ j (by omega), List.getElem_take]
 have key := Ev.upto (L := fun k j (_ : Unit) => laws_FnStartsTaken.l2 k c (oth s n) (i : Int) (rd (oth s n) (i : Int)) (oth s n) N (i : Int) ((oth s n).take i) ((((oth s n).take i).length : Nat) : Int) (j : Int) (n : Int) l ((n - 1 : Nat) : Int) (tk s l)) (R := fun _ _ => true) (n := i)
  (fun _ => by
   refine Ev.succ ?_
   have g : ¬ (i : Int) < (((oth s n).take i).length : Int) := by omega
   simp only [laws_FnStartsTaken.l2, g, if_false, wrap_nat i (i + 1) (by omega) (by omega)]
   exact cont)
  (fun j _ hj ih => by
   refine Ev.succ ?_
   have g1 : (j : Int) < (((oth s n).take i).length : Int) := by omega
   have g0 : (0 : Int) ≤ (j : Int) := by omega
   obtain ⟨x, hx, hxs, hxn⟩ : ∃ x : Nat, rd (oth s n) (i : Int) = (x : Int) ∧ shk (x : Int) (s : Int) = (i : Int) ∧ x < n ∧ x ≠ s := by
    rw [hrd i hi]
    by_cases d : i < s
    ·rw [if_pos d]; exact ⟨i, rfl, by unfold shk; rw [if_neg (by omega)], by omega⟩
    ·rw [if_neg d]; exact ⟨i + 1, rfl, by unfold shk; rw [if_pos (by omega)]; omega, by omega⟩
   obtain ⟨y, hy, hys, hyn⟩ : ∃ y : Nat, rd ((oth s n).take i) (j : Int) = (y : Int) ∧ shk (y : Int) (s : Int) = (j : Int) ∧ y < n ∧ y ≠ s := by
    rw [hrt j hj]
    by_cases d : j < s
    ·rw [if_pos d]; exact ⟨j, rfl, by unfold shk; rw [if_neg (by omega)], by omega⟩
    ·rw [if_neg d]; exact ⟨j + 1, rfl, by unfold shk; rw [if_pos (by omega)]; omega, by omega⟩
   have hxy : x ≠ y := by intro e; subst e; rw [hxs] at hys; omega
   have m1 := MeetingsOf_ev n l x y hg hxn.1 hyn.1
   rw [if_neg hxy] at m1
   have m2 := MeetingsOf_ev (n - 1) (tk s l) i j hg2 (by omega) (by omega)
   rw [if_neg (by omega)] at m2
   have hmm := tk_mtc (n := n) (by omega) l (s : Int) (x : Int) (y : Int) (by omega) (by omega) (by omega) (by omega) (by omega) hl.2.2.2
   rw [hxs, hys] at hmm
   simp only [laws_FnStartsTaken.l2, g1, g0, if_true, hx, hy]
   refine Ev.bind m1 (Ev.bind m2 ?_)
   simp only [if_true, hmm, wrap_nat j i hj (by omega)]
   rw [← hx]
   exact ih ())
 have := key 0 () (Nat.zero_le _)
 exact this
theorem st_l0 {n s : Nat} {l : List Int} (hg : isLadderB n l = true) (h3 : 3 ≤ n) (hs : s < n) {c : List Int} (hc : Bytes c) :
  Ev (fun k => laws_FnStartsTaken.l0 k c (s : Int) ([] : List Int) 0 (n : Int) l ((n - 1 : Nat) : Int) (tk s l)) true := by
 have hl := ladder_ok hg
 have htl := tk_length l (s : Int)
 have htok := tk_ok (n := n) (by omega) l (s : Int) (by omega) (by omega) hl.2.2.2
 have hg2 : isLadderB ((n - 1 : Nat) : Int) (tk s l) = true := ok_ladder (by omega) (by omega) (by omega) htok
 obtain ⟨hlen, hget⟩ := oth_get s n
 rw [if_neg (by omega)] at hlen
 have key := Ev.inv (σ := List Int) (L := fun k j acc => laws_FnStartsTaken.l0 k c (s : Int) acc (j : Int) (n : Int) l ((n - 1 : Nat) : Int) (tk s l)) (r := true) (n := n)
  (Inv := fun j acc => acc = oth s j)
  (fun acc hacc => by
   subst hacc
   refine Ev.succ ?_
   have g : ¬ (n : Int) < (n : Int) := by omega
   simp only [laws_FnStartsTaken.l0, g, if_false]
   refine Ev.bind (kResult_ev n l hg) ?_
   have hpw := selL_pw (fun i => decide (i ≠ s)) n
   have hin : ∀ x ∈ oth s n, 0 ≤ x ∧ x < (n : Int) := fun x hx => by have := (oth_mem s n x).1 hx; omega
   have hr : risingB (oth s n) (n : Int) = true := pw_rising (by omega) (by omega) hpw hin
   have hk := kept_pat (n := n) (by omega) (oth s n) l hl.2.2.2 hpw hin
   rw [keep_oth s n n l (Nat.le_refl _), if_pos hs, hlen] at hk
   refine Ev.bind (PatternOf_ev (by omega) (by omega) l hl.2.2.2 (oth s n) (by omega) (fun e => by rw [e] at hlen; simp at hlen; omega) hr) ?_
   obtain ⟨u, hu, hue⟩ := RungsUsed_ev hg (s : Int) (by omega) (by omega)
   refine Ev.bind hue ?_
   have hkv : keepV (n : Int) l (oth s n) = (((n - 1 : Nat) : Int), tk s l, true) := by
    unfold keepV
    have en : ((n : Int)).toNat = n := by omega
    rw [if_pos ⟨hg, by omega, hr⟩, en, keep_oth s n n l (Nat.le_refl _), if_pos hs, hlen]
   have hkk := (KeepStarts_vals (n : Int) l (oth s n) (by omega)).2.1
   rw [hkv] at hkk
   refine Ev.bind hkk ?_
   simp only [if_true]
   refine Ev.bind (kResult_ev (n - 1) _ hg2) ?_
   rw [← hk.1]
   refine Ev.bind (kSame_refl _ (by rw [res_length]; omega)) ?_
   have htt := tk_tch l (s : Int)
   have ew : wrap64 ((l.length : Int) - (u.length : Int)) = ((tk (s : Int) l).length : Int) := by unfold wrap64; omega
   simp only [if_true, ew]
   refine Ev.bind (kLadder_refl _ _ (by omega)) ?_
   simp only [if_true]
   have k2 := Ev.upto (L := fun k j (_ : Unit) => laws_FnStartsTaken.l1 k c (oth s n) (oth s n) ((oth s n).length : Int) (j : Int) (n : Int) l ((n - 1 : Nat) : Int) (tk s l)) (R := fun _ _ => true) (n := (oth s n).length)
    (fun _ => by
     refine Ev.succ ?_
     have g : ¬ ((oth s n).length : Int) < ((oth s n).length : Int) := by omega
     simp only [laws_FnStartsTaken.l1, g, if_false]
     exact st_j3 hc)
    (fun i _ hi ih => by
     refine Ev.succ ?_
     have g1 : (i : Int) < ((oth s n).length : Int) := by omega
     have g0 : (0 : Int) ≤ (i : Int) := by omega
     have g2 : (i : Int) ≤ ((oth s n).length : Int) := by omega
     simp only [laws_FnStartsTaken.l1, g1, g0, g2, if_true, Option.bind_some, nat_toNat]
     exact st_l2 hg h3 hs hg2 c i hi _ (ih ()))
   exact k2 0 () (Nat.zero_le _))
  (fun j acc hj hacc ih => by
   subst hacc
   refine Ev.succ ?_
   have g1 : (j : Int) < (n : Int) := by omega
   obtain ⟨hl2, _⟩ := oth_get s j
   have g2 : (oth s j).length < 17592186044416 := by rw [hl2]; split <;> omega
   simp only [laws_FnStartsTaken.l0, g1, g2, if_true, wrap_nat j n hj (by omega)]
   refine Ev.ite (fun e => ih _ ?_) (fun e => ih _ ?_)
   ·unfold oth; rw [selL, if_neg (by simp; omega)]
   ·unfold oth; rw [selL, if_pos (by simp; omega)])
 exact key 0 [] (Nat.zero_le _) rfl
theorem FnStartsTaken : ∀ (l0 : List Int) (l1 : List Int), l0.length ≤ maxLen → (∀ x ∈ l0, (Lit.int .u8 x).wf = true) → l1.length ≤ maxLen → (∀ x ∈ l1, (Lit.int .u8 x).wf = true) → ∃ k, laws_FnStartsTaken.f k l0 l1 = some true := by
 intro code more h0 b0 h1 b1
 refine Ev.rounds ?_
 obtain ⟨t, ht, hsm⟩ := big_ev code more h0 h1
 unfold laws_FnStartsTaken.f
 rw [ht]
 simp only [Option.bind_some]
 cases t with
 | true => simp only [if_true]; exact Ev.now _
 | false =>
  obtain ⟨s0, s1⟩ := hsm rfl
  simp only [Bool.false_eq_true, if_false]
  obtain ⟨⟨a, l, x⟩, hd, _⟩ := drawTakeStart_got (c := code) ⟨s0, bytes_of b0⟩
  have hc : Bytes more := ⟨s1, bytes_of b1⟩
  refine Ev.bind hd ?_
  obtain ⟨hs, hi, hlen⟩ := TakeStart_vals a l x
  refine Ev.bind hi (Ev.bind hs ?_)
  simp only [bne_self_eq_false, Bool.false_eq_true, if_false]
  refine Ev.bind (kLadder_refl _ _ (by omega)) ?_
  simp only [if_true]
  refine Ev.iteb (fun h => ?_) (fun _ => st_j3 hc)
  have hv : isLadderB a l = true ∧ inB x 0 (wrap64 (a - 1)) = true ∧ ¬ a < 3 := by
   unfold takeV at h
   by_cases g : isLadderB a l = true
   ·rw [if_pos g] at h
    by_cases g2 : inB x 0 (wrap64 (a - 1)) = true
    ·rw [if_pos g2] at h
     by_cases g3 : a < 3
     ·rw [if_pos g3] at h; cases h
     ·exact ⟨g, g2, g3⟩
    ·rw [if_neg g2] at h; cases h
   ·rw [if_neg g] at h; cases h
  obtain ⟨g1, g2, g3⟩ := hv
  have hl0 := (isLadderB_iff a l).1 g1
  have hw : wrap64 (a - 1) = a - 1 := wrap_in (by omega) (by omega)
  have hv2 : takeV a l x = (a - 1, tk x l, true) := by unfold takeV; rw [if_pos g1, if_pos g2, if_neg g3, hw]
  rw [hw] at g2
  have hx := (inB_iff _ _ _).1 g2
  obtain ⟨n, rfl⟩ : ∃ n : Nat, a = n := ⟨a.toNat, by omega⟩
  obtain ⟨s, rfl⟩ : ∃ s : Nat, x = s := ⟨x.toNat, by omega⟩
  rw [hv2]
  have e1 : (n : Int) - 1 = ((n - 1 : Nat) : Int) := by omega
  simp only [e1]
  exact st_l0 g1 (by omega) (by omega) hc
end Go.Proofs.Ytakddaclgppdjaa.Q
