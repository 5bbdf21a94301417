/- The first levels of as few as can be: the program's and the reference's are the same. No program's memory. -/
import Derived.Test.YtojbmihkdlkkcaaB1
import Derived.Test.YtojbmihkdlkkcaaB2
import Derived.Test.YtojbmihkdlkkcaaB7
import Derived.Test.YtojbmihkdlkkcaaQmakes
import Derived.Test.YtojbmihkdlkkcaaQmarkSS
namespace Go.Proofs.Ytojbmihkdlkkcaa.Q
open Go.RowKit Go.Proofs.Ytojbmihkdlkkcaa.B Go.Proofs.YtojbmihkdlkkcaaW.PrintWords Go.Proofs.YtojbmihkdlkkcaaW.PrintLast Go.Proofs.YtojbmihkdlkkcaaW.PrintMore
set_option linter.unusedVariables false
set_option linter.unusedSimpArgs false
def lvIn (D : List Int → Int) (p : List Int) (m : Nat) : List (List Int) → Option (List Int × List Int)
  | [] => none
  | l :: ls => if D (topL p l) = (m : Int) then some (l, topL p l) else lvIn D p m ls
def lvGo (D : List Int → Int) (ls : List (List Int)) : Nat → List Int → List (List Int) → List (List Int)
  | 0, _, out => out
  | m + 1, p, out => match lvIn D p m ls with
    | none => lvGo D ls m p out
    | some s => lvGo D ls m s.2 (out ++ [s.1])
def leastLv (p : List Int) : List (List Int) × Bool := if orderB p = true ∧ 2 ≤ p.length ∧ p.length ≤ 6 then (lvGo (lookF (depQ p.length)) (rowsL p.length) (lookF (depQ p.length) p).toNat p [], true) else ([], false)
theorem lvIn_in {D : List Int → Int} {p : List Int} {m : Nat} : ∀ {ls : List (List Int)} {s : List Int × List Int}, lvIn D p m ls = some s → s.1 ∈ ls ∧ s.2 = topL p s.1
  | l :: ls, s, h => by
    unfold lvIn at h
    by_cases c : D (topL p l) = (m : Int)
    · rw [if_pos c] at h
      injection h with h
      subst h
      exact ⟨by simp, rfl⟩
    · rw [if_neg c] at h
      obtain ⟨a, b⟩ := lvIn_in h
      exact ⟨by simp [a], b⟩
theorem lvIn_same {n : Nat} {D D' : List Int → Int} (hD : ∀ p, isOrd n p → D p = D' p) {p : List Int} (hp : isOrd n p) (m : Nat) : ∀ ls : List (List Int), (∀ l, l ∈ ls → okRungs n l) → lvIn D p m ls = lvIn D' p m ls
  | [], _ => rfl
  | l :: ls, h => by
    unfold lvIn
    rw [hD _ (topL_isOrd l hp (h l (by simp))), lvIn_same hD hp m ls (fun l hl => h l (by simp [hl]))]
theorem lvGo_same {n : Nat} {D D' : List Int → Int} (hD : ∀ p, isOrd n p → D p = D' p) {ls : List (List Int)} (hls : ∀ l, l ∈ ls → okRungs n l) : ∀ (m : Nat) (p : List Int) (out : List (List Int)), isOrd n p → lvGo D ls m p out = lvGo D' ls m p out
  | 0, _, _, _ => rfl
  | m + 1, p, out, hp => by
    unfold lvGo
    rw [lvIn_same hD hp m ls hls]
    cases e : lvIn D' p m ls with
    | none => exact lvGo_same hD hls m p out hp
    | some s =>
      obtain ⟨h1, h2⟩ := lvIn_in e
      exact lvGo_same hD hls m s.2 _ (by rw [h2]; exact topL_isOrd _ hp (hls _ h1))
theorem lvGo_rows {D : List Int → Int} {ls : List (List Int)} : ∀ (m : Nat) (p : List Int) (out : List (List Int)), (lvGo D ls m p out).length ≤ out.length + m ∧ ∀ l, l ∈ lvGo D ls m p out → l ∈ out ∨ l ∈ ls
  | 0, _, out => ⟨Nat.le_refl _, fun l h => .inl h⟩
  | m + 1, p, out => by
    unfold lvGo
    cases e : lvIn D p m ls with
    | none =>
      obtain ⟨a, b⟩ := lvGo_rows (D := D) (ls := ls) m p out
      exact ⟨Nat.le_trans a (by omega), b⟩
    | some s =>
      obtain ⟨a, b⟩ := lvGo_rows (D := D) (ls := ls) m s.2 (out ++ [s.1])
      simp only
      refine ⟨by simp at a; omega, fun l hl => ?_⟩
      rcases b l hl with h | h
      · rcases List.mem_append.1 h with h | h
        · exact .inl h
        · rw [List.mem_singleton] at h
          rw [h]
          exact .inr (lvIn_in e).1
      · exact .inr h
theorem look_in {n : Nat} (hn : n ≤ 6) {p : List Int} (hp : isOrd n p) : 0 ≤ lookF (depQ n) p ∧ lookF (depQ n) p ≤ 1000 := by
  have hg := depQ_good n hn
  have h := depQ_all n hn hp
  rw [List.mem_map] at h
  obtain ⟨e, he, rfl⟩ := h
  rw [lookF_mem hg he]
  obtain ⟨j, hj⟩ := List.getElem?_of_mem he
  have h1 := hg.dep j e hj
  have h2 := hg.le hn
  have h3 := (List.getElem?_eq_some_iff.1 hj).1
  omega
theorem leastLv_small (p : List Int) : smallSS (leastLv p).1 := by
  unfold leastLv
  by_cases h : orderB p = true ∧ 2 ≤ p.length ∧ p.length ≤ 6
  · rw [if_pos h]
    have hl := look_in h.2.2 (isOrd_of_order h.1)
    obtain ⟨a, b⟩ := lvGo_rows (D := lookF (depQ p.length)) (ls := rowsL p.length) (lookF (depQ p.length) p).toNat p []
    refine ⟨by simp at a ⊢; omega, fun l hl2 => ?_⟩
    rcases b l hl2 with h2 | h2
    · cases h2
    · have := (rows_ok h.2.2 h2).1
      omega
  · rw [if_neg h]; simp [smallSS]
theorem llIn_f (n : Nat) (hn : n ≤ 6) (k : Nat) (hr : Ready n k) (q : List (List Int × Int)) (p : List Int) (hp : isOrd n p) (m : Nat) (hm : m ≤ 1000) : ∀ ls : List (List Int), (∀ l, l ∈ ls → l ∈ rowsL n) → llIn k q p ((m + 1 : Nat) : Int) ls = some (lvIn (lookD q) p m ls)
  | [], _ => rfl
  | l :: ls, hls => by
    have hl := hls l (by simp)
    have hx := topL_isOrd l hp (rows_ok hn hl).2
    have e1 := (hr p ((allO_mem n p).2 hp)).2 l hl
    have e2 := (hr _ ((allO_mem n _).2 hx)).1
    have e3 : wrap64 (((m + 1 : Nat) : Int) - 1) = (m : Int) := by unfold wrap64; omega
    unfold llIn lvIn
    rw [e1, Option.bind_some, if_pos e2, e3]
    by_cases c : lookD q (topL p l) = (m : Int)
    · rw [if_pos c, if_pos c]
    · rw [if_neg c, if_neg c]
      exact llIn_f n hn k hr q p hp m hm ls (fun l hl => hls l (by simp [hl]))
theorem llL_f (n : Nat) (hn : n ≤ 6) (k : Nat) (hr : Ready n k) (q : List (List Int × Int)) : ∀ (m g : Nat) (p : List Int) (out : List (List Int)), m < g → m + out.length ≤ 1000 → isOrd n p → llL k q (rowsL n) g p (m : Int) out = some (lvGo (lookD q) (rowsL n) m p out)
  | 0, g + 1, p, out, _, _, _ => by
    unfold llL
    rw [if_neg (by omega)]
    rfl
  | m + 1, g + 1, p, out, hg, ho, hp => by
    unfold llL lvGo
    have e3 : wrap64 (((m + 1 : Nat) : Int) - 1) = (m : Int) := by unfold wrap64; omega
    rw [if_pos (by omega), llIn_f n hn k hr q p hp m (by omega) _ (fun _ h => h), Option.bind_some, e3]
    cases e : lvIn (lookD q) p m (rowsL n) with
    | none => exact llL_f n hn k hr q m g p out (by omega) (by omega) hp
    | some s =>
      obtain ⟨h1, h2⟩ := lvIn_in e
      have hx := topL_isOrd s.1 hp (rows_ok hn h1).2
      simp only
      rw [if_pos ⟨by omega, by rw [h2, topL_length]⟩]
      exact llL_f n hn k hr q m g s.2 _ (by omega) (by simp; omega) (by rw [h2]; exact hx)
theorem LeastLevels_impl (p : List Int) : Ev (fun k => impl_LeastLevels.f k p) (leastLv p) := by
  unfold impl_LeastLevels.f leastLv
  refine Ev.bind (isMade_ev p) ?_
  by_cases h : orderB p = true ∧ 2 ≤ p.length ∧ p.length ≤ 6
  · have hp := isOrd_of_order h.1
    simp only [h, and_self, decide_true, if_true]
    refine Ev.bind (depths_ev p.length h.2.1 h.2.2) ?_
    obtain ⟨K, hK⟩ := ready_ev p.length h.2.2
    have hl := look_in h.2.2 hp
    refine ⟨max K 1002, fun k hk => ?_⟩
    have hr := hK k (by omega)
    have e1 : keyOk k p = true := (hr p ((allO_mem _ p).2 hp)).1
    have e2 : lookD (depQ p.length) p = (((lookF (depQ p.length) p).toNat : Nat) : Int) := by rw [look_both _ h.2.2 hp]; omega
    have e3 := llL_f p.length h.2.2 k hr (depQ p.length) (lookF (depQ p.length) p).toNat k p [] (by omega) (by simp; omega) hp
    rw [lvGo_same (fun x hx => look_both _ h.2.2 hx) (fun l hl => (rows_ok h.2.2 hl).2) _ p [] hp] at e3
    simp only [e1, true_and, h.2.1, h.2.2, and_self, if_true, e2]
    show ((llL k (depQ p.length) (rowsL p.length) k p _ []).bind _) = _
    rw [e3]
    rfl
  · rw [decide_eq_false h, if_neg h]
    simp only [Bool.false_eq_true, if_false]
    exact Ev.now _
/-- rounds enough for each order and each level, at the reference -/
def ReadyS (n k : Nat) : Prop := ∀ p, p ∈ allO n → spec_alRank.f k p = some ((rankL p : Nat) : Int) ∧ ∀ l, l ∈ rowsL n → spec_lvTop.f k p l = some (topL p l)
theorem readyS_ev (n : Nat) (hn : n ≤ 6) : ∃ K, ∀ k, K ≤ k → ReadyS n k := by
  refine all_ev (P := fun k p => spec_alRank.f k p = some ((rankL p : Nat) : Int) ∧ ∀ l, l ∈ rowsL n → spec_lvTop.f k p l = some (topL p l)) (allO n) (fun p hp => ?_)
  have ho := (allO_mem n p).1 hp
  obtain ⟨K1, h1⟩ := alRank_ev p (by have := ho.1; omega)
  obtain ⟨K2, h2⟩ := all_ev (P := fun k l => spec_lvTop.f k p l = some (topL p l)) (rowsL n) (fun l hl => by
    have hr := rows_ok hn hl
    exact lvTop_ev p l (by have := ho.1; omega) (by omega) (by rw [ho.1]; exact hr.2))
  exact ⟨max K1 K2, fun k hk => ⟨h1 k (by omega), h2 k (by omega)⟩⟩
theorem slIn_f (n : Nat) (hn : n ≤ 6) (k : Nat) (hr : ReadyS n k) (q : List (List Int × Int)) (p : List Int) (hp : isOrd n p) (m : Nat) (hm : m ≤ 1000) : ∀ ls : List (List Int), (∀ l, l ∈ ls → l ∈ rowsL n) → slIn k (farQ n q) p ((m + 1 : Nat) : Int) ls = some (lvIn (lookF q) p m ls)
  | [], _ => rfl
  | l :: ls, hls => by
    have hl := hls l (by simp)
    have hx := topL_isOrd l hp (rows_ok hn hl).2
    have e1 := (hr p ((allO_mem n p).2 hp)).2 l hl
    have e2 := (hr _ ((allO_mem n _).2 hx)).1
    have e3 : wrap64 (((m + 1 : Nat) : Int) - 1) = (m : Int) := by unfold wrap64; omega
    have hrl := rank_lt hn hx
    have hfl : (farQ n q).length = (allO n).length := by simp [farQ]
    unfold slIn lvIn
    rw [e1, Option.bind_some, e2, Option.bind_some, if_pos ⟨by omega, by omega⟩, e3, far_at hn q hx]
    by_cases c : lookF q (topL p l) = (m : Int)
    · rw [if_pos c, if_pos c]
    · rw [if_neg c, if_neg c]
      exact slIn_f n hn k hr q p hp m hm ls (fun l hl => hls l (by simp [hl]))
theorem slL_f (n : Nat) (hn : n ≤ 6) (k : Nat) (hr : ReadyS n k) (q : List (List Int × Int)) : ∀ (m g : Nat) (p : List Int) (out : List (List Int)), m < g → m + out.length ≤ 1000 → isOrd n p → slL k (farQ n q) (rowsL n) g p (m : Int) out = some (lvGo (lookF q) (rowsL n) m p out)
  | 0, g + 1, p, out, _, _, _ => by
    unfold slL
    rw [if_neg (by omega)]
    rfl
  | m + 1, g + 1, p, out, hg, ho, hp => by
    unfold slL lvGo
    have e3 : wrap64 (((m + 1 : Nat) : Int) - 1) = (m : Int) := by unfold wrap64; omega
    rw [if_pos (by omega), slIn_f n hn k hr q p hp m (by omega) _ (fun _ h => h), Option.bind_some, e3]
    cases e : lvIn (lookF q) p m (rowsL n) with
    | none => exact slL_f n hn k hr q m g p out (by omega) (by omega) hp
    | some s =>
      obtain ⟨h1, h2⟩ := lvIn_in e
      have hx := topL_isOrd s.1 hp (rows_ok hn h1).2
      simp only
      rw [if_pos ⟨by omega, by rw [h2, topL_length]⟩]
      exact slL_f n hn k hr q m g s.2 _ (by omega) (by simp; omega) (by rw [h2]; exact hx)
theorem LeastLevels_spec (p : List Int) : Ev (fun k => spec_LeastLevels.f k p) (leastLv p) := by
  unfold spec_LeastLevels.f leastLv
  refine Ev.bind (lvMade_ev p) ?_
  by_cases h : orderB p = true ∧ 2 ≤ p.length ∧ p.length ≤ 6
  · have hp := isOrd_of_order h.1
    simp only [h, and_self, decide_true, if_true]
    refine Ev.bind (lvFar_ev p.length h.2.1 h.2.2) ?_
    refine Ev.bind (alRank_ev p (by omega)) ?_
    have hrl := rank_lt h.2.2 hp
    have hfl : (farQ p.length (depQ p.length)).length = (allO p.length).length := by simp [farQ]
    have g1 : (0 : Int) ≤ ((rankL p : Nat) : Int) := by omega
    have g2 : ((rankL p : Nat) : Int) < ((farQ p.length (depQ p.length)).length : Int) := by omega
    simp only [g1, g2, and_self, if_true]
    refine Ev.bind (lvAll_ev p.length h.2.1 (by omega) 4 0 (by omega) (by omega) (by omega)) ?_
    rw [← rows_lva p.length h.2.2]
    have g3 := rowsL_le p.length h.2.2
    simp only [g3, if_true, far_at h.2.2 _ hp]
    obtain ⟨K, hK⟩ := readyS_ev p.length h.2.2
    have hl := look_in h.2.2 hp
    refine ⟨max K 1002, fun k hk => ?_⟩
    have e2 : lookF (depQ p.length) p = (((lookF (depQ p.length) p).toNat : Nat) : Int) := by omega
    have e3 := slL_f p.length h.2.2 k (hK k (by omega)) (depQ p.length) (lookF (depQ p.length) p).toNat k p [] (by omega) (by simp; omega) hp
    rw [← e2] at e3
    simp only [e3]
    rfl
  · rw [decide_eq_false h, if_neg h]
    simp only [Bool.false_eq_true, if_false]
    exact Ev.now _
end Go.Proofs.Ytojbmihkdlkkcaa.Q
