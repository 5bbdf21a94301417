/- The pure statement of FnExactStartsFor: the program's StartsFor and the reference's give the same. Conditions: none beyond the law's own. -/
import Derived.Test.YtjppgokdocjljaaDoorE
import Derived.Test.YtjppgokdocjljaaDoorB1
import Derived.Test.YtjppgokdocjljaaDoorB4
namespace Go.Proofs.YtjppgokdocjljaaDoor.Q
open Go.RowKit Go.Proofs.YtjppgokdocjljaaDoor.B Go.Proofs.YtjppgokdocjljaaDoorW.PrintWords Go.Proofs.YtjppgokdocjljaaDoorW.PrintLast Go.Proofs.YtjppgokdocjljaaDoorW.PrintMore
set_option linter.unusedVariables false
set_option linter.unusedSimpArgs false
/-! Steps of indices. -/
theorem wrap_succ {i : Int} {n : Nat} (h0 : 0 ≤ i) (h : i < (n : Int)) (hn : n ≤ 9223372036854775807) : wrap64 (i + 1) = i + 1 := by
  unfold wrap64; omega
theorem wrap_in {i : Int} (h0 : -9223372036854775808 ≤ i) (h : i ≤ 9223372036854775807) : wrap64 i = i := by
  unfold wrap64; omega
theorem rd_nat (l : List Int) (j : Nat) (hj : j < l.length) : rd l (j : Int) = l[j] := by
  unfold rd; simp [hj]
theorem copy_step (l : List Int) (j : Nat) (hj : j < l.length) :
    (l.take j ++ List.replicate (l.length - j) 0).set j (l.getD j 0) = l.take (j + 1) ++ List.replicate (l.length - (j + 1)) 0 := by
  have e1 : l.length - j = (l.length - (j + 1)) + 1 := by omega
  have e2 : (l.take j).length = j := by rw [List.length_take]; omega
  rw [List.set_append_right (h := by omega), e2, e1, List.replicate_succ, Nat.sub_self, List.set_cons_zero, List.take_succ_eq_append_getElem hj, List.append_assoc]
  rw [List.getD_eq_getElem?_getD, List.getElem?_eq_getElem hj]
  rfl
/-! Rounds. -/
theorem Ev.succ {α : Type} {g : Nat → Option α} {r : α} (h : Ev (fun k => g (k + 1)) r) : Ev g r := Ev.step (f := fun k => g (k + 1)) (fun _ => rfl) h
theorem Ev.ret {α : Type} {g : Nat → Option α} {r : α} (h : ∀ k, g k = some r) : Ev g r := ⟨0, fun k _ => h k⟩
theorem Ev.eq {α : Type} {g : Nat → Option α} {r r' : α} (h : Ev g r) (e : r = r') : Ev g r' := e ▸ h
theorem Ev.iteb {α : Type} {b : Bool} {f g : Nat → Option α} {r : α} (h1 : b = true → Ev f r) (h2 : b = false → Ev g r) : Ev (fun k => if b = true then f k else g k) r := by
  cases b with
  | true => simpa using h1 rfl
  | false => simpa using h2 rfl
theorem Ev.ite {α : Type} {p : Prop} [Decidable p] {f g : Nat → Option α} {r : α} (h1 : p → Ev f r) (h2 : ¬ p → Ev g r) : Ev (fun k => if p then f k else g k) r := by
  by_cases h : p
  · simpa [h] using h1 h
  · simpa [h] using h2 h
/-- A loop over the places j, j+1, .., n: its state s, what it answers from a place and a state on. -/
theorem Ev.upto {σ ρ : Type} {L : Nat → Nat → σ → Option ρ} {R : Nat → σ → ρ} {n : Nat} (hend : ∀ s, Ev (fun k => L k n s) (R n s)) (hstep : ∀ j s, j < n → (∀ s', Ev (fun k => L k (j + 1) s') (R (j + 1) s')) → Ev (fun k => L k j s) (R j s)) :
    ∀ j s, j ≤ n → Ev (fun k => L k j s) (R j s) := by
  intro j s hj
  obtain ⟨d, hd⟩ : ∃ d, d = n - j := ⟨_, rfl⟩
  induction d generalizing j s with
  | zero => obtain rfl : j = n := by omega
            exact hend s
  | succ d ih => exact hstep j s (by omega) (fun s' => ih (j + 1) s' (by omega) (by omega))
theorem nat_succ (j : Nat) : ((j : Int) + 1) = ((j + 1 : Nat) : Int) := rfl
theorem wrap_nat (j n : Nat) (h : j < n) (hn : n ≤ 9223372036854775807) : wrap64 ((j : Int) + 1) = ((j + 1 : Nat) : Int) := by
  unfold wrap64; omega
theorem nat_toNat (j : Nat) : ((j : Int)).toNat = j := rfl
theorem take_snoc {α : Type} (l : List α) (j : Nat) (h : j < l.length) : l.take (j + 1) = l.take j ++ [l[j]] := List.take_succ_eq_append_getElem h
theorem Ev.inv {σ ρ : Type} {L : Nat → Nat → σ → Option ρ} {Inv : Nat → σ → Prop} {r : ρ} {n : Nat} (hend : ∀ s, Inv n s → Ev (fun k => L k n s) r) (hstep : ∀ j s, j < n → Inv j s → (∀ s', Inv (j + 1) s' → Ev (fun k => L k (j + 1) s') r) → Ev (fun k => L k j s) r) :
    ∀ j s, j ≤ n → Inv j s → Ev (fun k => L k j s) r := by
  intro j s hj hi
  obtain ⟨d, hd⟩ : ∃ d, d = n - j := ⟨_, rfl⟩
  induction d generalizing j s with
  | zero => obtain rfl : j = n := by omega
            exact hend s hi
  | succ d ih => exact hstep j s (by omega) hi (fun s' hs' => ih (j + 1) s' (by omega) hs' (by omega))
theorem bt_nat (s : ByteArray) (e : Nat) (he : e < s.size) : bt s (e : Int) = ((s[e]'he).toNat : Int) := by
  unfold bt; rw [dif_pos (show ((e : Int)).toNat < s.size from he)]; rfl
theorem strOf_snoc (xs : List Int) (s : ByteArray) (e : Nat) (he : e < s.size) : strOfNums (xs ++ [bt s (e : Int)]) = strOfNums xs ++ s.extract e (e + 1) := by
  have hd : e < s.data.toList.length := by rw [Array.length_toList]; exact he
  apply ByteArray.ext
  rw [ByteArray.data_append, ByteArray.data_extract]
  apply Array.toList_inj.1
  rw [Array.toList_append, Array.toList_extract, bt_nat s e he, strOfNums_data, strOfNums_data, List.map_append]
  congr 1
  rw [List.extract_eq_take_drop, List.drop_eq_getElem_cons hd]
  simp [ByteArray.getElem_eq_getElem_data]
def letters : List UInt8 := [97, 98, 99, 100, 101, 102, 103, 104, 105, 106, 107, 108, 109, 110, 111, 112, 113, 114, 115, 116, 117, 118, 119, 120, 121, 122]
theorem letters_nat : ∀ n, n < 256 → letters.contains (UInt8.ofNat n) = (decide (97 ≤ n) && decide (n ≤ 122)) := by decide +kernel
theorem letters_iff (b : UInt8) : letters.contains b = (decide (97 ≤ b.toNat) && decide (b.toNat ≤ 122)) := by
  have h := letters_nat b.toNat b.toNat_lt
  rwa [UInt8.ofNat_toNat] at h
theorem dw_nil (p : UInt8 → Bool) (l : List UInt8) : l.dropWhile p = [] ↔ ∀ x ∈ l, p x = true := by
  induction l with
  | nil => simp
  | cons y t ih =>
    rw [List.dropWhile_cons]
    by_cases c : p y = true
    · rw [if_pos c, ih]
      constructor
      · intro h x hx
        rcases List.mem_cons.1 hx with e | e
        · rw [e]; exact c
        · exact h x e
      · intro h x hx
        exact h x (List.mem_cons_of_mem _ hx)
    · rw [if_neg c]
      constructor
      · intro h; cases h
      · intro h; exact absurd (h y (List.mem_cons_self ..)) c
theorem dw_cons (p : UInt8 → Bool) (y : UInt8) (t : List UInt8) (l : List UInt8) : l.dropWhile p = y :: t → p y = false := by
  induction l with
  | nil => intro h; cases h
  | cons z u ih =>
    rw [List.dropWhile_cons]
    by_cases c : p z = true
    · rw [if_pos c]; exact ih
    · rw [if_neg c]; intro h; injection h with h1 h2; subst h1; simpa using c
theorem trimS_nil (l cs : List UInt8) : Lib.trimS l cs = [] ↔ l.all (fun b => cs.contains b) = true := by
  unfold Lib.trimS Lib.trimLeftS Lib.trimRightS
  rw [List.all_eq_true]
  constructor
  · intro h
    have h1 : ∀ x ∈ (l.reverse.dropWhile (cs.contains ·)).reverse, cs.contains x = true := by
      rw [dw_nil] at h; exact h
    cases c : l.reverse.dropWhile (cs.contains ·) with
    | nil =>
      rw [dw_nil] at c
      intro x hx
      exact c x (by simpa using hx)
    | cons y t =>
      have h2 : cs.contains y = true := h1 y (by rw [c]; simp)
      have h3 := dw_cons _ y t _ c
      rw [h2] at h3
      exact absurd h3 (by simp)
  · intro h
    have c : l.reverse.dropWhile (cs.contains ·) = [] := by
      rw [dw_nil]
      intro x hx
      exact h x (by simpa using hx)
    rw [c]; rfl
def prizesB (s : ByteArray) (n : Int) : Bool := decide ((s.size : Int) = n) && s.data.toList.all (fun b => letters.contains b)
theorem arePrizes_f (s : ByteArray) (n : Int) (hs : s.size ≤ 1048576) : impl_arePrizes.f s n = some (prizesB s n) := by
  unfold impl_arePrizes.f strings_Trim.f prizesB
  have g : s.size ≤ 9223372036854775807 ∧ (⟨#[97, 98, 99, 100, 101, 102, 103, 104, 105, 106, 107, 108, 109, 110, 111, 112, 113, 114, 115, 116, 117, 118, 119, 120, 121, 122]⟩ : ByteArray).size < 4294967281 ∧ (⟨#[97, 98, 99, 100, 101, 102, 103, 104, 105, 106, 107, 108, 109, 110, 111, 112, 113, 114, 115, 116, 117, 118, 119, 120, 121, 122]⟩ : ByteArray).data.toList.all (fun b => decide (b.toNat < 128)) = true := ⟨by omega, by decide, by decide⟩
  rw [if_pos g]
  by_cases h : (s.size : Int) = n
  · rw [if_pos h, decide_eq_true h, Bool.true_and]
    simp only [Option.bind_some]
    congr 1
    rw [Lib.toList_data, Bool.eq_iff_iff, ← trimS_nil s.data.toList letters, beq_iff_eq]
    rfl
  · rw [if_neg h, decide_eq_false h, Bool.false_and]
theorem mrPrizes_ev (s : ByteArray) (n : Int) (hs : s.size ≤ 1048576) : Ev (fun k => spec_mrPrizes.f k s n) (prizesB s n) := by
  unfold spec_mrPrizes.f prizesB
  refine Ev.ite (fun h => ?_) (fun h => ?_)
  · subst h
    rw [decide_eq_true rfl, Bool.true_and]
    have key := Ev.upto (L := fun k j (_ : Unit) => spec_mrPrizes.l0 k s (s.size : Int) (j : Int)) (R := fun j _ => (s.data.toList.drop j).all (fun b => letters.contains b)) (n := s.size)
      (fun _ => by
        refine Ev.succ (Ev.ret fun k => ?_)
        rw [spec_mrPrizes.l0, if_neg (by omega), List.drop_eq_nil_of_le (by rw [Array.length_toList]; exact Nat.le_refl _)]; rfl)
      (fun j _ hj ih => by
        refine Ev.succ ?_
        have g1 : (j : Int) < (s.size : Int) := by omega
        have g0 : (0 : Int) ≤ (j : Int) := by omega
        have hd : j < s.data.toList.length := by rw [Array.length_toList]; exact hj
        have e : s[j]'hj = s.data.toList[j] := by simp [ByteArray.getElem_eq_getElem_data]
        simp only [spec_mrPrizes.l0, g1, g0, if_true, bt_nat s j hj, wrap_nat j _ hj (by omega)]
        rw [List.drop_eq_getElem_cons hd, List.all_cons, letters_iff, ← e]
        refine Ev.ite (fun c => ?_) (fun c => ?_)
        · have : decide (97 ≤ (s[j]'hj).toNat) = false := by simp; omega
          rw [this]; exact Ev.now _
        · have c1 : decide (97 ≤ (s[j]'hj).toNat) = true := by simp; omega
          refine Ev.ite (fun c => ?_) (fun c => ?_)
          · have : decide ((s[j]'hj).toNat ≤ 122) = false := by simp; omega
            rw [c1, this]; exact Ev.now _
          · have : decide ((s[j]'hj).toNat ≤ 122) = true := by simp; omega
            rw [c1, this]; exact ih ())
    simpa using key 0 () (Nat.zero_le _)
  · rw [decide_eq_false h, Bool.false_and]; exact Ev.now _
def ovr (w r : Int) : Int := if w = r then wrap64 (r + 1) else if w = wrap64 (r + 1) then r else w
theorem ovr_in {w : Int} {n r : Nat} (h0 : 0 ≤ w) (h1 : w < n) (hr : r < n - 1) (hn : n ≤ 8) : 0 ≤ ovr w r ∧ ovr w r < n := by
  have e : wrap64 ((r : Int) + 1) = (r : Int) + 1 := wrap_in (by omega) (by omega)
  unfold ovr
  rw [e]
  split
  · omega
  · split <;> omega
/-- Where one comes out. -/
def endOf (w : Int) (rungs : List Int) : Int := rungs.foldl ovr w
def downs (w : Int) : List Int → List Int
  | [] => [w]
  | r :: l => w :: downs (ovr w r) l
theorem downs_length (l : List Int) : ∀ w, (downs w l).length = l.length + 1 := by
  induction l with
  | nil => intro w; rfl
  | cons r l ih => intro w; simp [downs, ih]
theorem downs_last (l : List Int) : ∀ w, (downs w l)[l.length]? = some (endOf w l) := by
  induction l with
  | nil => intro w; rfl
  | cons r l ih => intro w; simp [downs, endOf]; exact ih _
theorem downs_snoc (l : List Int) (r : Int) : ∀ w, downs w (l ++ [r]) = downs w l ++ [ovr (endOf w l) r] := by
  induction l with
  | nil => intro w; rfl
  | cons q l ih => intro w; simp [downs, ih, endOf]
theorem endOf_snoc (l : List Int) (r w : Int) : endOf w (l ++ [r]) = ovr (endOf w l) r := by simp [endOf]
/-- The result. -/
def res (n : Nat) (l : List Int) : List Int := (List.range n).map fun (i : Nat) => endOf (i : Int) l
theorem res_length (n : Nat) (l : List Int) : (res n l).length = n := by simp [res]
theorem res_take (n j : Nat) (l : List Int) (h : j < n) : (res n l).take (j + 1) = (res n l).take j ++ [endOf (j : Int) l] := by
  have hj : j < (res n l).length := by rw [res_length]; exact h
  rw [take_snoc _ j hj]; simp [res]
theorem ovr_plain {w r : Int} (h0 : 0 ≤ r) (h1 : r ≤ 1000) : ovr w r = if w = r then r + 1 else if w = r + 1 then r else w := by
  unfold ovr; rw [wrap_in (by omega) (by omega)]
theorem ovr_ovr {w r : Int} (h0 : 0 ≤ r) (h1 : r ≤ 1000) : ovr (ovr w r) r = w := by
  rw [ovr_plain h0 h1, ovr_plain h0 h1]
  split <;> split <;> (try split) <;> omega
/-- Who comes out at w. -/
def startOf (w : Int) (l : List Int) : Int := l.reverse.foldl ovr w
theorem startOf_cons (w r : Int) (l : List Int) : startOf w (r :: l) = ovr (startOf w l) r := by simp [startOf]
theorem endOf_cons (w r : Int) (l : List Int) : endOf w (r :: l) = endOf (ovr w r) l := rfl
theorem end_start (l : List Int) : ∀ (w : Int), (∀ r ∈ l, 0 ≤ r ∧ r ≤ 1000) → endOf (startOf w l) l = w := by
  induction l with
  | nil => intro w _; rfl
  | cons r l ih =>
    intro w h
    have hr := h r (by simp)
    rw [startOf_cons, endOf_cons, ovr_ovr hr.1 hr.2]
    exact ih w (fun q hq => h q (by simp [hq]))
theorem start_end (l : List Int) : ∀ (w : Int), (∀ r ∈ l, 0 ≤ r ∧ r ≤ 1000) → startOf (endOf w l) l = w := by
  induction l with
  | nil => intro w _; rfl
  | cons r l ih =>
    intro w h
    have hr := h r (by simp)
    rw [startOf_cons, endOf_cons, ih _ (fun q hq => h q (by simp [hq])), ovr_ovr hr.1 hr.2]
theorem ovr_lt {w r : Int} {n : Nat} (h0 : 0 ≤ w) (h1 : w < n) (hr0 : 0 ≤ r) (hr : r ≤ (n : Int) - 2) (hn : n ≤ 1000) : 0 ≤ ovr w r ∧ ovr w r < n := by
  rw [ovr_plain hr0 (by omega)]; split <;> (try split) <;> omega
theorem endOf_lt (l : List Int) {n : Nat} (hn : n ≤ 1000) : ∀ (w : Int), 0 ≤ w → w < n → (∀ r ∈ l, 0 ≤ r ∧ r ≤ (n : Int) - 2) → 0 ≤ endOf w l ∧ endOf w l < n := by
  induction l with
  | nil => intro w h0 h1 _; exact ⟨h0, h1⟩
  | cons r l ih =>
    intro w h0 h1 h
    have hr := h r (by simp)
    have := ovr_lt h0 h1 hr.1 hr.2 hn
    rw [endOf_cons]
    exact ih _ this.1 this.2 (fun q hq => h q (by simp [hq]))
theorem startOf_lt (l : List Int) {n : Nat} (hn : n ≤ 1000) (w : Int) (h0 : 0 ≤ w) (h1 : w < n) (h : ∀ r ∈ l, 0 ≤ r ∧ r ≤ (n : Int) - 2) : 0 ≤ startOf w l ∧ startOf w l < n := by
  induction l with
  | nil => exact ⟨h0, h1⟩
  | cons r l ih =>
    have hr := h r (by simp)
    have := ih (fun q hq => h q (by simp [hq]))
    rw [startOf_cons]
    exact ovr_lt this.1 this.2 hr.1 hr.2 hn
theorem rd_res (n : Nat) (l : List Int) (i : Nat) (hi : i < n) : rd (res n l) (i : Int) = endOf (i : Int) l := by
  rw [rd_nat _ i (by rw [res_length]; exact hi)]; simp [res]
theorem laOver_f (w r : Int) : spec_laOver.f w r = some (ovr w r) := by
  unfold spec_laOver.f ovr; split
  · rfl
  · split <;> rfl
theorem laDown_ev (l : List Int) (w : Int) (hn : l.length ≤ 1000000) : Ev (fun k => spec_laDown.f k l w) (downs w l) := by
  have key := Ev.inv (σ := Int × List Int) (L := fun k j s => spec_laDown.l0 k s.1 s.2 l (l.length : Int) (j : Int)) (r := downs w l) (n := l.length)
    (Inv := fun j s => s.1 = endOf w (l.take j) ∧ s.2 = downs w (l.take j))
    (fun s hs => by
      obtain ⟨s1, s2⟩ := s; obtain ⟨rfl, rfl⟩ := hs
      refine Ev.succ (Ev.ret fun k => ?_)
      rw [spec_laDown.l0, if_neg (by omega), List.take_length])
    (fun j s hj hs ih => by
      obtain ⟨s1, s2⟩ := s; obtain ⟨rfl, rfl⟩ := hs
      refine Ev.succ ?_
      have h1 : (j : Int) < (l.length : Int) := by omega
      have h0 : (0 : Int) ≤ (j : Int) := by omega
      have h2 : (downs w (l.take j)).length < 17592186044416 := by rw [downs_length, List.length_take]; omega
      simp only [spec_laDown.l0, h1, h0, h2, if_true, rd_nat l j hj, wrap_nat j _ hj (by omega), laOver_f, Option.bind_some]
      have e1 : ovr (endOf w (l.take j)) l[j] = endOf w (l.take (j + 1)) := by rw [take_snoc l j hj, endOf_snoc]
      have e2 : downs w (l.take j) ++ [ovr (endOf w (l.take j)) l[j]] = downs w (l.take (j + 1)) := by rw [take_snoc l j hj, downs_snoc]
      exact ih (_, _) ⟨e1, e2⟩)
  exact key 0 (w, [w]) (Nat.zero_le _) ⟨rfl, rfl⟩
theorem laResult_ev (n : Nat) (l : List Int) (hn : n ≤ 8) (hl : l.length ≤ 1000000) : Ev (fun k => spec_laResult.f k (n : Int) l) (res n l) := by
  have key := Ev.inv (σ := List Int) (L := fun k j s => spec_laResult.l0 k (n : Int) l s (j : Int)) (r := res n l) (n := n)
    (Inv := fun j s => s = (res n l).take j)
    (fun s hs => by
      subst hs
      refine Ev.succ (Ev.ret fun k => ?_)
      rw [spec_laResult.l0, if_neg (by omega), List.take_of_length_le (by rw [res_length]; omega)])
    (fun j s hj hs ih => by
      subst hs
      refine Ev.succ ?_
      have h1 : (j : Int) < (n : Int) := by omega
      have h0 : (0 : Int) ≤ (l.length : Int) := by omega
      have h2 : (l.length : Int) < ((downs (j : Int) l).length : Int) := by rw [downs_length]; omega
      have h3 : ((res n l).take j).length < 17592186044416 := by rw [List.length_take, res_length]; omega
      simp only [spec_laResult.l0, h1, if_true, wrap_nat j n hj (by omega)]
      refine Ev.bind (laDown_ev l (j : Int) hl) ?_
      have e : rd (downs (j : Int) l) (l.length : Int) = endOf (j : Int) l := by
        unfold rd; rw [nat_toNat, List.getD_eq_getElem?_getD, downs_last]; rfl
      simp only [h0, h2, h3, if_true, e]
      exact ih _ (res_take n j l hj).symm)
  exact key 0 [] (Nat.zero_le _) rfl
theorem over_f (w r : Int) : impl_over.f w r = some (ovr w r) := by
  unfold impl_over.f ovr; split
  · rfl
  · split <;> rfl
theorem way_ev (a : Int) (l : List Int) (w : Int) (hn : l.length ≤ 1000000) : Ev (fun k => impl_way.f k a l w) (downs w l) := by
  have key := Ev.inv (σ := Int × List Int) (L := fun k j s => impl_way.l0 k s.1 s.2 l (l.length : Int) (j : Int)) (r := downs w l) (n := l.length)
    (Inv := fun j s => s.1 = endOf w (l.take j) ∧ s.2 = downs w (l.take j))
    (fun s hs => by
      obtain ⟨s1, s2⟩ := s; obtain ⟨rfl, rfl⟩ := hs
      refine Ev.succ (Ev.ret fun k => ?_)
      rw [impl_way.l0, if_neg (by omega), List.take_length])
    (fun j s hj hs ih => by
      obtain ⟨s1, s2⟩ := s; obtain ⟨rfl, rfl⟩ := hs
      refine Ev.succ ?_
      have h1 : (j : Int) < (l.length : Int) := by omega
      have h0 : (0 : Int) ≤ (j : Int) := by omega
      have h2 : (downs w (l.take j)).length < 17592186044416 := by rw [downs_length, List.length_take]; omega
      simp only [impl_way.l0, h1, h0, h2, if_true, rd_nat l j hj, wrap_nat j _ hj (by omega), over_f, Option.bind_some]
      have e1 : ovr (endOf w (l.take j)) l[j] = endOf w (l.take (j + 1)) := by rw [take_snoc l j hj, endOf_snoc]
      have e2 : downs w (l.take j) ++ [ovr (endOf w (l.take j)) l[j]] = downs w (l.take (j + 1)) := by rw [take_snoc l j hj, downs_snoc]
      exact ih (_, _) ⟨e1, e2⟩)
  exact key 0 (w, [w]) (Nat.zero_le _) ⟨rfl, rfl⟩
theorem result_ev (n : Nat) (l : List Int) (hn : n ≤ 8) (hl : l.length ≤ 1000000) : Ev (fun k => impl_result.f k (n : Int) l) (res n l) := by
  have key := Ev.inv (σ := List Int) (L := fun k j s => impl_result.l0 k (n : Int) l s (n : Int) (j : Int)) (r := res n l) (n := n)
    (Inv := fun j s => s = (res n l).take j)
    (fun s hs => by
      subst hs
      refine Ev.succ (Ev.ret fun k => ?_)
      rw [impl_result.l0, if_neg (by omega), List.take_of_length_le (by rw [res_length]; omega)])
    (fun j s hj hs ih => by
      subst hs
      refine Ev.succ ?_
      have h1 : (j : Int) < (n : Int) := by omega
      have h3 : ((res n l).take j).length < 17592186044416 := by rw [List.length_take, res_length]; omega
      simp only [impl_result.l0, h1, if_true, wrap_nat j n hj (by omega)]
      refine Ev.bind (way_ev (n : Int) l (j : Int) hl) ?_
      have e0 : wrap64 (((downs (j : Int) l).length : Int) - 1) = (l.length : Int) := by rw [downs_length]; unfold wrap64; omega
      have h0 : (0 : Int) ≤ (l.length : Int) := by omega
      have h2 : (l.length : Int) < ((downs (j : Int) l).length : Int) := by rw [downs_length]; omega
      have e : rd (downs (j : Int) l) (l.length : Int) = endOf (j : Int) l := by
        unfold rd; rw [nat_toNat, List.getD_eq_getElem?_getD, downs_last]; rfl
      simp only [e0, h0, h2, h3, if_true, e]
      exact ih _ (res_take n j l hj).symm)
  exact key 0 [] (Nat.zero_le _) rfl
def given (n : Nat) (l : List Int) (s : ByteArray) : ByteArray := strOfNums ((res n l).map (bt s))
theorem mrGiven_ev (n : Nat) (hn : n ≤ 8) (l : List Int) (hl : l.length ≤ 1000000) (hr : ∀ r ∈ l, 0 ≤ r ∧ r ≤ (n : Int) - 2) (s : ByteArray) (hs : s.size = n) : Ev (fun k => spec_mrGiven.f k (n : Int) l s) (given n l s) := by
  unfold spec_mrGiven.f
  refine Ev.bind (laResult_ev n l hn hl) ?_
  rw [res_length]
  have key := Ev.inv (σ := ByteArray) (L := fun k j x => spec_mrGiven.l0 k s x (res n l) (n : Int) (j : Int)) (r := given n l s) (n := n)
    (Inv := fun j x => x = strOfNums (((res n l).take j).map (bt s)))
    (fun x hx => by
      subst hx
      refine Ev.succ (Ev.ret fun k => ?_)
      rw [spec_mrGiven.l0, if_neg (by omega), List.take_of_length_le (by rw [res_length]; omega)]; rfl)
    (fun j x hj hx ih => by
      subst hx
      refine Ev.succ ?_
      have he := endOf_lt l (n := n) (by omega) (j : Int) (by omega) (by omega) hr
      obtain ⟨e, ee⟩ : ∃ e : Nat, endOf (j : Int) l = (e : Int) := ⟨(endOf (j : Int) l).toNat, by omega⟩
      rw [ee] at he
      have h1 : (j : Int) < (n : Int) := by omega
      have h0 : (0 : Int) ≤ (j : Int) := by omega
      have h2 : (j : Int) < ((res n l).length : Int) := by rw [res_length]; omega
      have w1 : wrap64 ((e : Int) + 1) = ((e + 1 : Nat) : Int) := wrap_nat e n (by omega) (by omega)
      have h3 : (0 : Int) ≤ (e : Int) := by omega
      have h4 : (e : Int) ≤ ((e + 1 : Nat) : Int) := by omega
      have h5 : ((e + 1 : Nat) : Int) ≤ (s.size : Int) := by omega
      have hes : e < s.size := by omega
      have h6 : (strOfNums (((res n l).take j).map (bt s))).size + (s.extract e (e + 1)).size ≤ 9223372036854775807 := by
        rw [strOfNums_size, List.length_map, List.length_take, ByteArray.size_extract]; omega
      simp only [spec_mrGiven.l0, h1, h0, h2, if_true, rd_res n l j hj, ee, w1, h3, h4, h5, wrap_nat j n hj (by omega), nat_toNat, h6]
      refine ih _ ?_
      have hjl : j < (res n l).length := by rw [res_length]; exact hj
      have e3 : (res n l)[j] = (e : Int) := by rw [← rd_nat _ j hjl, rd_res n l j hj, ee]
      rw [take_snoc _ j hjl, List.map_append, e3]
      exact (strOf_snoc _ s e hes).symm)
  exact key 0 (⟨#[]⟩ : ByteArray) (Nat.zero_le _) rfl
theorem prizesOf_ev (n : Nat) (hn : n ≤ 8) (l : List Int) (hl : l.length ≤ 1000000) (hr : ∀ r ∈ l, 0 ≤ r ∧ r ≤ (n : Int) - 2) (s : ByteArray) (hs : s.size = n) : Ev (fun k => impl_prizesOf.f k (n : Int) l s) (given n l s) := by
  unfold impl_prizesOf.f
  refine Ev.bind (result_ev n l hn hl) ?_
  rw [res_length]
  have key := Ev.inv (σ := List Int) (L := fun k j x => impl_prizesOf.l0 k s x (res n l) (n : Int) (j : Int)) (r := given n l s) (n := n)
    (Inv := fun j x => x = ((res n l).take j).map (bt s))
    (fun x hx => by
      subst hx
      refine Ev.succ (Ev.ret fun k => ?_)
      rw [impl_prizesOf.l0, if_neg (by omega), List.take_of_length_le (by rw [res_length]; omega)]; rfl)
    (fun j x hj hx ih => by
      subst hx
      refine Ev.succ ?_
      have he := endOf_lt l (n := n) (by omega) (j : Int) (by omega) (by omega) hr
      obtain ⟨e, ee⟩ : ∃ e : Nat, endOf (j : Int) l = (e : Int) := ⟨(endOf (j : Int) l).toNat, by omega⟩
      rw [ee] at he
      have h1 : (j : Int) < (n : Int) := by omega
      have h0 : (0 : Int) ≤ (j : Int) := by omega
      have h2 : (j : Int) < ((res n l).length : Int) := by rw [res_length]; omega
      have h3 : (0 : Int) ≤ (e : Int) := by omega
      have h5 : (e : Int) < (s.size : Int) := by omega
      have h6 : (((res n l).take j).map (bt s)).length < 140737488355328 := by rw [List.length_map, List.length_take, res_length]; omega
      simp only [impl_prizesOf.l0, h1, h0, h2, if_true, rd_res n l j hj, ee, h3, h5, h6, wrap_nat j n hj (by omega)]
      refine ih _ ?_
      have hjl : j < (res n l).length := by rw [res_length]; exact hj
      have e3 : (res n l)[j] = (e : Int) := by rw [← rd_nat _ j hjl, rd_res n l j hj, ee]
      rw [take_snoc _ j hjl, List.map_append, e3]; rfl)
  exact key 0 [] (Nat.zero_le _) rfl
theorem l1In_f (a b c : Int) : spec_l1In.f a b c = some (inB a b c) := by
  unfold spec_l1In.f inB
  split
  · rename_i h; simp [h]
  · rename_i h; simp; omega
theorem inB_iff (a b c : Int) : inB a b c = true ↔ b ≤ a ∧ a ≤ c := by unfold inB; simp
theorem l1All_ev (l : List Int) (lo hi : Int) (hn : l.length ≤ 9223372036854775807) : Ev (fun k => spec_l1All.f k l lo hi) (l.all fun x => inB x lo hi) := by
  have key := Ev.upto (L := fun k j (_ : Unit) => spec_l1All.l0 k lo hi l (l.length : Int) (j : Int)) (R := fun j _ => (l.drop j).all fun x => inB x lo hi) (n := l.length)
    (fun _ => by
      refine Ev.succ (Ev.ret fun k => ?_)
      rw [spec_l1All.l0, if_neg (by omega)]; simp)
    (fun j _ hj ih => by
      refine Ev.succ ?_
      have h1 : (j : Int) < (l.length : Int) := by omega
      have h0 : (0 : Int) ≤ (j : Int) := by omega
      simp only [spec_l1All.l0, h1, h0, if_true, l1In_f, rd_nat l j hj, Option.bind_some, wrap_nat j _ hj hn]
      rw [List.drop_eq_getElem_cons hj, List.all_cons]
      refine Ev.iteb (fun h => ?_) (fun h => ?_)
      · rw [h, Bool.true_and]; exact ih ()
      · rw [h, Bool.false_and]; exact Ev.now _)
  have := key 0 () (Nat.zero_le _)
  rw [List.drop_zero] at this
  exact this
theorem laGood_ev (a : Int) (l : List Int) : Ev (fun k => spec_laGood.f k a l) (isLadderB a l) := by
  unfold spec_laGood.f isLadderB
  simp only [l1In_f, Option.bind_some]
  refine Ev.iteb (fun h => ?_) (fun h => ?_)
  · rw [h, Bool.true_and]
    refine Ev.ite (fun h2 => ?_) (fun h2 => ?_)
    · have h3 : decide (l.length ≤ 60) = true := by simp; omega
      rw [h3, Bool.true_and]
      refine Ev.bind (l1All_ev l 0 _ (by omega)) ?_
      refine Ev.eq (Ev.now _) ?_
      rw [List.all_eq_not_any_not]
    · have h3 : decide (l.length ≤ 60) = false := by simp; omega
      rw [h3, Bool.false_and]; exact Ev.now _
  · rw [h, Bool.false_and]; exact Ev.now _
theorem isLadderB_iff (a : Int) (l : List Int) : isLadderB a l = true ↔ 2 ≤ a ∧ a ≤ 8 ∧ l.length ≤ 60 ∧ ∀ r ∈ l, 0 ≤ r ∧ r ≤ a - 2 := by
  unfold isLadderB
  by_cases h : 2 ≤ a ∧ a ≤ 8
  · have e : wrap64 (a - 2) = a - 2 := wrap_in (by omega) (by omega)
    rw [e]
    simp [inB, h.1, h.2]
  · constructor
    · intro h2; simp [inB] at h2; exact absurd h2.1 h
    · intro h2; exact absurd ⟨h2.1, h2.2.1⟩ h
theorem toIntS_l0 (l : List Int) (hn : l.length ≤ 140737488351232) (d : Nat) : ∀ (k j : Nat), j ≤ l.length → l.length - j = d → d < k →
    laws_toIntS.l0 k l (l.take j ++ List.replicate (l.length - j) 0) (j : Int) = some l := by
  induction d with
  | zero =>
    intro k j h1 hd hk
    obtain ⟨k, rfl⟩ : ∃ m, k = m + 1 := ⟨k - 1, by omega⟩
    have : j = l.length := by omega
    subst this
    rw [laws_toIntS.l0, if_neg (by omega)]; simp
  | succ d ih =>
    intro k j h1 hd hk
    obtain ⟨k, rfl⟩ : ∃ m, k = m + 1 := ⟨k - 1, by omega⟩
    have hj : j < l.length := by omega
    rw [laws_toIntS.l0, if_pos (by omega), if_pos (by omega), if_pos (by simp; omega), wrap_succ (n := l.length) (by omega) (by omega) (by omega)]
    have e : (j : Int).toNat = j := rfl
    have e2 : ((j : Int) + 1) = ((j + 1 : Nat) : Int) := rfl
    unfold rd
    rw [e, copy_step l j hj, e2]
    exact ih k (j + 1) (by omega) (by omega) (by omega)
theorem toIntS_f (l : List Int) (hn : l.length ≤ 17592186043904) (k : Nat) (hk : l.length < k) : laws_toIntS.f k l = some l := by
  unfold laws_toIntS.f
  rw [if_pos (by omega), if_pos (by simp; omega)]
  have := toIntS_l0 l (by omega) l.length k 0 (by omega) (by omega) hk
  simpa using this
theorem toIntS_ev (l : List Int) (hn : l.length ≤ 17592186043904) : Ev (fun k => laws_toIntS.f k l) l :=
  ⟨l.length + 1, fun k hk => toIntS_f l hn k (by omega)⟩
theorem toLadder_ev (a : Int) (l : List Int) (hn : l.length ≤ 17592186043904) : Ev (fun k => laws_toLadder.f k a l) (a, l) := by
  unfold laws_toLadder.f
  exact Ev.bind (toIntS_ev l hn) (Ev.now _)
theorem eqIntS_l0 (a b : List Int) (he : a.length = b.length) (hn : a.length ≤ 9223372036854775807) (d : Nat) : ∀ (k j : Nat), j ≤ a.length → a.length - j = d → d < k →
    laws_eqIntS.l0 k a b (j : Int) = some (decide (a.drop j = b.drop j)) := by
  induction d with
  | zero =>
    intro k j h1 hd hk
    obtain ⟨k, rfl⟩ : ∃ m, k = m + 1 := ⟨k - 1, by omega⟩
    have h2 : a.drop j = [] := List.drop_eq_nil_of_le (by omega)
    have h3 : b.drop j = [] := List.drop_eq_nil_of_le (by omega)
    rw [laws_eqIntS.l0, if_neg (by omega), h2, h3]; simp only [decide_true]
  | succ d ih =>
    intro k j h1 hd hk
    obtain ⟨k, rfl⟩ : ∃ m, k = m + 1 := ⟨k - 1, by omega⟩
    have hj : j < a.length := by omega
    have hj2 : j < b.length := by omega
    rw [laws_eqIntS.l0, if_pos (by omega), if_pos (by omega), if_pos (by omega), rd_nat a j hj, rd_nat b j hj2, wrap_succ (n := a.length) (by omega) (by omega) hn, List.drop_eq_getElem_cons hj, List.drop_eq_getElem_cons hj2]
    by_cases h : a[j] = b[j]
    · rw [if_pos h]
      have e2 : ((j : Int) + 1) = ((j + 1 : Nat) : Int) := rfl
      rw [e2, ih k (j + 1) (by omega) (by omega) (by omega)]
      refine congrArg some (decide_eq_decide.2 ?_)
      rw [List.cons.injEq]
      exact ⟨fun e => ⟨h, e⟩, fun e => e.2⟩
    · rw [if_neg h]
      refine congrArg some (decide_eq_false ?_).symm
      rw [List.cons.injEq]
      exact fun e => h e.1
theorem eqIntS_ev (a b : List Int) (hn : a.length ≤ 9223372036854775807) : Ev (fun k => laws_eqIntS.f k a b) (decide (a = b)) := by
  refine ⟨a.length + 1, fun k hk => ?_⟩
  show laws_eqIntS.f k a b = _
  unfold laws_eqIntS.f
  by_cases h : (a.length : Int) = (b.length : Int)
  · rw [if_pos h]
    have := eqIntS_l0 a b (by omega) hn a.length k 0 (by omega) (by omega) (by omega)
    simpa using this
  · rw [if_neg h]
    have : a ≠ b := fun e => h (by rw [e])
    simp [this]
theorem eqIntS_refl (l : List Int) (hn : l.length ≤ 9223372036854775807) : Ev (fun k => laws_eqIntS.f k l l) true := Ev.eq (eqIntS_ev l l hn) (by simp)
theorem eqLadder_ev (a : Int) (l : List Int) (b : Int) (m : List Int) (hn : l.length ≤ 9223372036854775807) : Ev (fun k => laws_eqLadder.f k a l b m) (decide (a = b ∧ l = m)) := by
  unfold laws_eqLadder.f
  refine Ev.ite (fun h => ?_) (fun h => ?_)
  · refine Ev.bind (eqIntS_ev l m hn) ?_
    refine Ev.iteb (fun h2 => ?_) (fun h2 => ?_)
    · refine Ev.eq (Ev.now _) ?_; simp at h2; simp [h, h2]
    · refine Ev.eq (Ev.now _) ?_; simp at h2; simp [h2]
  · refine Ev.eq (Ev.now _) ?_; simp [h]
theorem eqLadder_refl (a : Int) (l : List Int) (hn : l.length ≤ 9223372036854775807) : Ev (fun k => laws_eqLadder.f k a l a l) true := Ev.eq (eqLadder_ev a l a l hn) (by simp)
theorem szLadder_f (a : Int) (l : List Int) (hn : l.length ≤ 9223372036854775807) : laws_szLadder.f a l 1048576 = some (if l.length ≤ 1048576 then 1048576 - (l.length : Int) else -1) := by
  unfold laws_szLadder.f laws_szIntS.f
  have e : wrap64 (1048576 - (l.length : Int)) = 1048576 - (l.length : Int) := wrap_in (by omega) (by omega)
  rw [e]
  by_cases h : l.length ≤ 1048576
  · rw [if_neg (by omega), if_pos h, Option.bind_some, if_neg (by omega)]
  · rw [if_pos (by omega), if_neg h]; rfl
/-- the marks from m on, n of them -/
def marks (m : Int) : Nat → List Int
  | 0 => []
  | n + 1 => m :: marks (wrap64 (m + 1)) n
def markEnd (m : Int) : Nat → Int
  | 0 => m
  | n + 1 => markEnd (wrap64 (m + 1)) n
theorem marks_length (n : Nat) : ∀ m, (marks m n).length = n := by
  induction n with
  | zero => intro m; rfl
  | succ n ih => intro m; simp [marks, ih]
theorem markIntS_l0 (n : Nat) : ∀ (k j : Nat) (p q : List Int) (m : Int), p.length = j → q.length = n → j + n ≤ 9223372036854775807 → n < k →
    laws_markIntS.l0 k (p ++ q) m (j : Int) = some (markEnd m n, p ++ marks m n) := by
  induction n with
  | zero =>
    intro k j p q m hp hq hb hk
    obtain ⟨k, rfl⟩ : ∃ m, k = m + 1 := ⟨k - 1, by omega⟩
    have : q = [] := List.eq_nil_of_length_eq_zero hq
    subst this
    rw [laws_markIntS.l0, if_neg (by simp; omega)]; simp [marks, markEnd]
  | succ n ih =>
    intro k j p q m hp hq hb hk
    obtain ⟨k, rfl⟩ : ∃ m, k = m + 1 := ⟨k - 1, by omega⟩
    cases q with
    | nil => simp at hq
    | cons x q =>
      rw [laws_markIntS.l0, if_pos (by simp; omega), if_pos (by omega), wrap_succ (i := (j : Int)) (n := j + n + 1) (by omega) (by omega) (by omega)]
      have e : (j : Int).toNat = j := rfl
      have e2 : ((j : Int) + 1) = ((j + 1 : Nat) : Int) := rfl
      have e3 : (p ++ x :: q).set j m = (p ++ [m]) ++ q := by
        rw [List.set_append_right (h := by omega), hp, Nat.sub_self, List.set_cons_zero, List.append_assoc]; rfl
      rw [e, e2, e3, ih k (j + 1) (p ++ [m]) q (wrap64 (m + 1)) (by simp [hp]) (by simpa using hq) (by omega) (by omega)]
      simp [marks, markEnd]
theorem markIntS_ev (l : List Int) (m : Int) (hn : l.length ≤ 9223372036854775807) : Ev (fun k => laws_markIntS.f k l m) (markEnd m l.length, marks m l.length) := by
  refine ⟨l.length + 1, fun k hk => ?_⟩
  show laws_markIntS.f k l m = _
  unfold laws_markIntS.f
  have := markIntS_l0 l.length k 0 [] l m rfl rfl (by omega) (by omega)
  simpa using this
theorem heldIntS_l0 (n : Nat) : ∀ (k j : Nat) (p : List Int) (m : Int), p.length = j → j + n ≤ 9223372036854775807 → n < k →
    laws_heldIntS.l0 k (p ++ marks m n) m (j : Int) = some (markEnd m n) := by
  induction n with
  | zero =>
    intro k j p m hp hb hk
    obtain ⟨k, rfl⟩ : ∃ m, k = m + 1 := ⟨k - 1, by omega⟩
    rw [laws_heldIntS.l0, if_neg (by simp [marks]; omega)]; rfl
  | succ n ih =>
    intro k j p m hp hb hk
    obtain ⟨k, rfl⟩ : ∃ m, k = m + 1 := ⟨k - 1, by omega⟩
    have hl := marks_length n (wrap64 (m + 1))
    rw [laws_heldIntS.l0, marks]
    have hr : rd (p ++ m :: marks (wrap64 (m + 1)) n) (j : Int) = m := by
      rw [rd_nat _ _ (by simp; omega), List.getElem_append_right (by omega)]; simp [hp]
    rw [if_pos (by simp; omega), if_pos (by omega), if_pos hr, wrap_succ (i := (j : Int)) (n := j + n + 1) (by omega) (by omega) (by omega)]
    have e2 : ((j : Int) + 1) = ((j + 1 : Nat) : Int) := rfl
    have e3 : p ++ m :: marks (wrap64 (m + 1)) n = (p ++ [m]) ++ marks (wrap64 (m + 1)) n := by simp
    rw [e2, e3, ih k (j + 1) (p ++ [m]) (wrap64 (m + 1)) (by simp [hp]) (by omega) (by omega)]
    rfl
theorem heldIntS_ev (m : Int) (n : Nat) (hn : n ≤ 9223372036854775807) : Ev (fun k => laws_heldIntS.f k (marks m n) m) (markEnd m n) := by
  refine ⟨n + 1, fun k hk => ?_⟩
  show laws_heldIntS.f k (marks m n) m = _
  unfold laws_heldIntS.f
  have := heldIntS_l0 n k 0 [] m rfl (by omega) (by omega)
  simpa using this
theorem markEnd_eq (n : Nat) : ∀ m : Int, 0 ≤ m → m + n ≤ 9223372036854775807 → markEnd m n = m + n := by
  induction n with
  | zero => intro m h0 h1; simp [markEnd]
  | succ n ih =>
    intro m h0 h1
    simp only [markEnd]
    rw [wrap_in (by omega) (by omega), ih (m + 1) (by omega) (by omega)]
    omega
theorem markLadder_ev (a : Int) (l : List Int) (m : Int) (hn : l.length ≤ 9223372036854775807) : Ev (fun k => laws_markLadder.f k a l m) (markEnd m l.length, marks m l.length) := by
  unfold laws_markLadder.f
  exact Ev.bind (markIntS_ev l m hn) (Ev.now _)
theorem stS_eq (g q : ByteArray) (hq : q.size = 1) : ∀ j, j ≤ g.size → stS g q j = stP g q j := by
  intro j
  induction j with
  | zero => intro _; rfl
  | succ j ih =>
    intro hj
    rw [stS, stP, ih (by omega)]
    have e : ((g.extract j (j + 1)).toList = q.toList) ↔ (bt g (j : Int) = bt q 0) := by
      rw [Lib.toList_data, Lib.toList_data]
      have h0 : (0 : Nat) < q.size := by omega
      have hd : j < g.data.toList.length := by rw [Array.length_toList]; exact hj
      rw [bt_nat g j hj, show (0 : Int) = ((0 : Nat) : Int) from rfl, bt_nat q 0 h0]
      have eq1 : q.data.toList = [q[0]'h0] := by
        have hl : q.data.toList.length = 1 := by rw [Array.length_toList]; exact hq
        obtain ⟨x, hx⟩ := List.length_eq_one_iff.1 hl
        rw [hx]
        congr 1
        have : q.data.toList[0]'(by omega) = x := by simp [hx]
        rw [← this]; rfl
      have eg1 : (g.extract j (j + 1)).data.toList = [g[j]'hj] := by
        rw [ByteArray.data_extract, Array.toList_extract, List.extract_eq_take_drop, List.drop_eq_getElem_cons hd]
        simp [ByteArray.getElem_eq_getElem_data]
      constructor
      · intro h
        rw [h, eq1] at eg1
        injection eg1 with h1 _
        rw [h1]
      · intro h
        rw [eg1, eq1]
        congr 1
        exact UInt8.toNat_inj.1 (by omega)
    by_cases c : bt g (j : Int) = bt q 0
    · rw [if_pos c, if_pos (e.2 c)]
    · rw [if_neg c, if_neg (fun h => c (e.1 h))]
theorem given_size (n : Nat) (l : List Int) (s : ByteArray) : (given n l s).size = n := by
  unfold given; rw [strOfNums_size, List.length_map, res_length]
theorem given_ascii (n : Nat) (hn : n ≤ 8) (l : List Int) (hr : ∀ r ∈ l, 0 ≤ r ∧ r ≤ (n : Int) - 2) (s : ByteArray) (hs : s.size = n) (hp : prizesB s n = true) : asciiB (given n l s) = true := by
  unfold asciiB
  rw [List.all_eq_true]
  intro b hb
  unfold given at hb
  rw [strOfNums_data, List.mem_map] at hb
  obtain ⟨y, hy, rfl⟩ := hb
  rw [List.mem_map] at hy
  obtain ⟨x, hx, rfl⟩ := hy
  obtain ⟨i, hi, rfl⟩ := List.getElem_of_mem hx
  have hi' : i < n := by rw [res_length] at hi; exact hi
  have he := endOf_lt l (n := n) (by omega) (i : Int) (by omega) (by omega) hr
  have e3 : (res n l)[i] = endOf (i : Int) l := by rw [← rd_nat _ i hi, rd_res n l i hi']
  obtain ⟨e, ee⟩ : ∃ e : Nat, endOf (i : Int) l = (e : Int) := ⟨(endOf (i : Int) l).toNat, by omega⟩
  rw [e3, ee]
  rw [ee] at he
  have hes : e < s.size := by omega
  rw [bt_nat s e hes]
  have hl : letters.contains (s[e]'hes) = true := by
    unfold prizesB at hp
    rw [Bool.and_eq_true] at hp
    have := List.all_eq_true.1 hp.2 (s[e]'hes) (by rw [ByteArray.getElem_eq_getElem_data, ← Array.getElem_toList]; exact List.getElem_mem _)
    exact this
  rw [letters_iff] at hl
  simp only [Bool.and_eq_true, decide_eq_true_eq] at hl
  have : UInt8.ofNat ((s[e]'hes).toNat : Int).toNat = s[e]'hes := by
    rw [Int.toNat_natCast, UInt8.ofNat_toNat]
  simp only [decide_eq_true_eq]
  first
    | (rw [this]; omega)
    | (simp; omega)
theorem StartsFor_both (a : Int) (l : List Int) (s p : ByteArray) (hs : s.size ≤ 1048576) (hp : p.size ≤ 1048576) : ∃ r, Ev (fun k => spec_StartsFor.f k a l s p) r ∧ Ev (fun k => impl_StartsFor.f k a l s p) r ∧ r.1.length ≤ 8 := by
  by_cases h : isLadderB a l = true
  · have hl := (isLadderB_iff a l).1 h
    obtain ⟨n, rfl⟩ : ∃ n : Nat, a = n := ⟨a.toNat, by omega⟩
    cases h2 : prizesB s n with
    | true =>
      cases h3 : prizesB p 1 with
      | true =>
        have hsn : s.size = n := by
          unfold prizesB at h2
          rw [Bool.and_eq_true] at h2
          have := of_decide_eq_true h2.1
          omega
        have hpn : p.size = 1 := by
          unfold prizesB at h3
          rw [Bool.and_eq_true] at h3
          have := of_decide_eq_true h3.1
          omega
        refine ⟨(stP (given n l s) p (given n l s).size, true), ?_, ?_, ?_⟩
        · unfold spec_StartsFor.f
          refine Ev.bind (laGood_ev _ l) ?_
          simp only [h, if_true]
          refine Ev.bind (mrPrizes_ev s _ hs) ?_
          simp only [h2, if_true]
          refine Ev.bind (mrPrizes_ev p _ hp) ?_
          simp only [h3, if_true]
          refine Ev.bind (mrGiven_ev n (by omega) l (by omega) hl.2.2.2 s hsn) ?_
          simp only [given_ascii n (by omega) l hl.2.2.2 s hsn h2, if_true, given_size, stS_eq (given n l s) p hpn n (by rw [given_size]; exact Nat.le_refl _)]
          rw [if_pos ⟨trivial, by omega⟩]
          exact Ev.now _
        · unfold impl_StartsFor.f impl_isLadder.f
          simp only [Option.bind_some, h, if_true, arePrizes_f s _ hs, h2, arePrizes_f p _ hp, h3]
          refine Ev.bind (prizesOf_ev n (by omega) l (by omega) hl.2.2.2 s hsn) ?_
          rw [if_pos ⟨by rw [given_size]; omega, by omega⟩]
          exact Ev.now _
        · have := stP_len (given n l s) p (given n l s).size
          have := given_size n l s
          simp only; omega
      | false =>
        refine ⟨([], false), ?_, ?_, by simp⟩
        · unfold spec_StartsFor.f
          refine Ev.bind (laGood_ev _ l) ?_
          simp only [h, if_true]
          refine Ev.bind (mrPrizes_ev s _ hs) ?_
          simp only [h2, if_true]
          refine Ev.bind (mrPrizes_ev p _ hp) ?_
          simp only [h3, Bool.false_eq_true, if_false]; exact Ev.now _
        · unfold impl_StartsFor.f impl_isLadder.f
          simp only [Option.bind_some, h, if_true, arePrizes_f s _ hs, h2, arePrizes_f p _ hp, h3, Bool.false_eq_true, if_false]
          exact Ev.now _
    | false =>
      refine ⟨([], false), ?_, ?_, by simp⟩
      · unfold spec_StartsFor.f
        refine Ev.bind (laGood_ev _ l) ?_
        simp only [h, if_true]
        refine Ev.bind (mrPrizes_ev s _ hs) ?_
        simp only [h2, Bool.false_eq_true, if_false]; exact Ev.now _
      · unfold impl_StartsFor.f impl_isLadder.f
        simp only [Option.bind_some, h, if_true, arePrizes_f s _ hs, h2, Bool.false_eq_true, if_false]
        exact Ev.now _
  · have h' : isLadderB a l = false := by simpa using h
    refine ⟨([], false), ?_, ?_, by simp⟩
    · unfold spec_StartsFor.f
      refine Ev.bind (laGood_ev _ l) ?_
      simp only [h', Bool.false_eq_true, if_false]; exact Ev.now _
    · unfold impl_StartsFor.f impl_isLadder.f
      simp only [Option.bind_some, h', Bool.false_eq_true, if_false]
      exact Ev.now _
theorem FnExactStartsFor : ∀ (a0_0 : Int) (l0_1 : List Int) (a1 : ByteArray) (a2 : ByteArray), (Lit.int .i64 a0_0).wf = true → l0_1.length ≤ maxLen → (∀ x ∈ l0_1, (Lit.int .i64 x).wf = true) → a1.size ≤ 140737488351232 → a2.size ≤ 140737488351232 → ∃ k, laws_FnExactStartsFor.f k a0_0 l0_1 a1 a2 = some true := by
  intro a l s p _ hm _ _ _
  unfold maxLen at hm
  refine Ev.rounds ?_
  unfold laws_FnExactStartsFor.f
  simp only [szLadder_f a l hm, Option.bind_some]
  by_cases hs1 : (s.size : Int) > 1048576
  · simp only [hs1, if_true]; exact Ev.now _
  by_cases hs2 : (p.size : Int) > 1048576
  · simp only [hs1, hs2, if_true, if_false]; exact Ev.now _
  by_cases hl : l.length ≤ 1048576
  · have h2 : ¬ (1048576 - (l.length : Int)) < 0 := by omega
    obtain ⟨r, hs, hi, hr⟩ := StartsFor_both a l s p (by omega) (by omega)
    have hneg : ¬ markEnd 1 r.1.length < 0 := by have := markEnd_eq r.1.length 1 (by omega) (by omega); omega
    have hneg2 : ¬ markEnd 1 l.length < 0 := by have := markEnd_eq l.length 1 (by omega) (by omega); omega
    simp only [hs1, hs2, hl, if_true, h2, if_false]
    repeat' (first
      | exact Ev.now _
      | ((with_reducible refine Ev.bind hs ?_); try dsimp only)
      | ((with_reducible refine Ev.bind hi ?_); try dsimp only)
      | ((with_reducible refine Ev.bind (toLadder_ev _ _ (by omega)) ?_); try dsimp only)
      | ((with_reducible refine Ev.bind (toIntS_ev _ (by omega)) ?_); try dsimp only)
      | ((with_reducible refine Ev.bind (eqLadder_refl _ _ (by omega)) ?_); try dsimp only)
      | ((with_reducible refine Ev.bind (eqIntS_refl _ (by omega)) ?_); try dsimp only)
      | ((with_reducible refine Ev.bind (markLadder_ev _ _ _ (by omega)) ?_); try dsimp only)
      | ((with_reducible refine Ev.bind (markIntS_ev _ _ (by omega)) ?_); try dsimp only)
      | ((with_reducible refine Ev.bind (heldIntS_ev _ _ (by omega)) ?_); try dsimp only)
      | simp only [if_true, if_false, bne_self_eq_false, Bool.false_eq_true, eq_self, Option.bind_some, hneg, hneg2]
      )
  · simp only [hs1, hs2, hl, if_false]
    simpa using Ev.now _
end Go.Proofs.YtjppgokdocjljaaDoor.Q
