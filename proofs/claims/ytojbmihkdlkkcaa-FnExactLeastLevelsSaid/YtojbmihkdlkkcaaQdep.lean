/- The least depths of all orders, by levels from the order of nothing on: as the program looks for them. No program's memory. -/
import Derived.Test.YtojbmihkdlkkcaaB1
import Derived.Test.YtojbmihkdlkkcaaB2
import Derived.Test.YtojbmihkdlkkcaaQrank
import Derived.Test.YtojbmihkdlkkcaaQlaid
import Derived.Test.YtojbmihkdlkkcaaQlva
namespace Go.Proofs.Ytojbmihkdlkkcaa.Q
open Go.RowKit Go.Proofs.Ytojbmihkdlkkcaa.B Go.Proofs.YtojbmihkdlkkcaaW.PrintWords Go.Proofs.YtojbmihkdlkkcaaW.PrintLast Go.Proofs.YtojbmihkdlkkcaaW.PrintMore
set_option linter.unusedVariables false
set_option linter.unusedSimpArgs false
def rowsL (n : Nat) : List (List Int) := lvl (n - 1) 8 0 []
def sIn (p : List Int) (v : Int) (ls : List (List Int)) (q : List (List Int × Int)) : List (List Int × Int) := ls.foldl (fun q l => putD (topL p l) v q) q
def sF (ls : List (List Int)) : Nat → Nat → List (List Int × Int) → List (List Int × Int)
  | 0, _, q => q
  | f + 1, i, q => match q[i]? with
    | none => q
    | some e => sF ls f (i + 1) (sIn e.1 (e.2 + 1) ls q)
/-- all orders of so many numbers in the order in which they are met, each with its depth -/
def depQ (n : Nat) : List (List Int × Int) := sF (rowsL n) 1001 0 [(idL n, 0)]
theorem rowsL_ok : (List.range 7).all (fun n => (rowsL n).all (fun l => decide (l.length ≤ 8) && l.all fun r => decide (0 ≤ r ∧ r + 1 < (n : Int))) && (List.range (n - 1)).all fun r => (rowsL n).contains [((r : Nat) : Int)]) = true := by decide +kernel
theorem allO_few : (List.range 7).all (fun n => decide ((allO n).length ≤ 1000)) = true := by decide +kernel
theorem rowsL_small : (List.range 7).all (fun n => decide ((rowsL n).length ≤ 1000)) = true := by decide +kernel
theorem rows_ok {n : Nat} (hn : n ≤ 6) {l : List Int} (hl : l ∈ rowsL n) : l.length ≤ 8 ∧ okRungs n l := by
  have h := List.all_eq_true.1 rowsL_ok n (by simp; omega)
  rw [Bool.and_eq_true] at h
  have h1 := List.all_eq_true.1 h.1 l hl
  rw [Bool.and_eq_true, List.all_eq_true] at h1
  exact ⟨of_decide_eq_true h1.1, fun r hr => of_decide_eq_true (h1.2 r hr)⟩
theorem rows_one {n : Nat} (hn : n ≤ 6) {r : Nat} (hr : r + 1 < n) : [((r : Nat) : Int)] ∈ rowsL n := by
  have h := List.all_eq_true.1 rowsL_ok n (by simp; omega)
  rw [Bool.and_eq_true] at h
  have := List.all_eq_true.1 h.2 r (by simp; omega)
  simpa using this
theorem allO_le {n : Nat} (hn : n ≤ 6) : (allO n).length ≤ 1000 := of_decide_eq_true (List.all_eq_true.1 allO_few n (by simp; omega))
structure GoodQ (n : Nat) (q : List (List Int × Int)) : Prop where
  ord : ∀ e, e ∈ q → isOrd n e.1
  nd : (q.map (·.1)).Nodup
  dep : ∀ (j : Nat) e, q[j]? = some e → 0 ≤ e.2 ∧ e.2 ≤ (j : Int)
theorem GoodQ.le {n : Nat} {q : List (List Int × Int)} (h : GoodQ n q) (hn : n ≤ 6) : q.length ≤ 1000 := by
  have := sub_le h.nd (b := allO n) (fun x hx => by
    rw [List.mem_map] at hx
    obtain ⟨e, he, rfl⟩ := hx
    exact (allO_mem n _).2 (h.ord e he))
  rw [List.length_map] at this
  exact Nat.le_trans this (allO_le hn)
theorem GoodQ.put {n : Nat} {q : List (List Int × Int)} (h : GoodQ n q) {x : List Int} {v : Int} (hx : isOrd n x) (h0 : 0 ≤ v) (h1 : v ≤ (q.length : Int)) : GoodQ n (putD x v q) := by
  unfold putD
  by_cases hm : q.any (fun e => decide (e.1 = x)) = true
  · rw [if_pos hm]; exact h
  · rw [if_neg hm]
    have hm2 : ∀ e, e ∈ q → e.1 ≠ x := fun e he e1 => hm (List.any_eq_true.2 ⟨e, he, decide_eq_true e1⟩)
    refine ⟨fun e he => ?_, ?_, fun j e he => ?_⟩
    · rcases List.mem_append.1 he with he | he
      · exact h.ord e he
      · rw [List.mem_singleton] at he; rw [he]; exact hx
    · rw [List.map_append, List.nodup_append]
      refine ⟨h.nd, by simp, fun a ha b hb e => ?_⟩
      rw [List.mem_map] at ha
      obtain ⟨c, hc, rfl⟩ := ha
      simp at hb
      exact hm2 c hc (by rw [e, hb])
    · by_cases hj : j < q.length
      · rw [List.getElem?_append_left hj] at he
        exact h.dep j e he
      · rw [List.getElem?_append_right (by omega)] at he
        have : j - q.length = 0 := by
          have := (List.getElem?_eq_some_iff.1 he).1
          simp at this
          omega
        rw [this] at he
        simp at he
        subst he
        exact ⟨h0, by show v ≤ _; omega⟩
theorem putD_len (x : List Int) (v : Int) (q : List (List Int × Int)) : q.length ≤ (putD x v q).length := by
  unfold putD
  split
  · exact Nat.le_refl _
  · simp
theorem putD_keep {x : List Int} {v : Int} {q : List (List Int × Int)} {i : Nat} {e : List Int × Int} (h : q[i]? = some e) : (putD x v q)[i]? = some e := by
  unfold putD
  split
  · exact h
  · rw [List.getElem?_append_left (List.getElem?_eq_some_iff.1 h).1]; exact h
theorem putD_mem (x : List Int) (v : Int) (q : List (List Int × Int)) : x ∈ (putD x v q).map (·.1) := by
  unfold putD
  split
  · rename_i h
    obtain ⟨e, he, e1⟩ := List.any_eq_true.1 h
    exact List.mem_map.2 ⟨e, he, of_decide_eq_true e1⟩
  · simp
theorem sIn_step (n : Nat) (p : List Int) (v : Int) (hp : isOrd n p) (h0 : 0 ≤ v) : ∀ (ls : List (List Int)) (q : List (List Int × Int)), (∀ l, l ∈ ls → okRungs n l) → GoodQ n q → v ≤ (q.length : Int) →
    GoodQ n (sIn p v ls q) ∧ q.length ≤ (sIn p v ls q).length ∧ (∀ (i : Nat) (e : List Int × Int), q[i]? = some e → (sIn p v ls q)[i]? = some e) ∧ ∀ l, l ∈ ls → topL p l ∈ (sIn p v ls q).map (·.1)
  | [], q, _, hg, _ => ⟨hg, Nat.le_refl _, fun _ _ h => h, fun l hl => by cases hl⟩
  | l :: ls, q, hls, hg, hv => by
    have hl := putD_len (topL p l) v q
    obtain ⟨a, b, c, d⟩ := sIn_step n p v hp h0 ls (putD (topL p l) v q) (fun l hl => hls l (by simp [hl])) (hg.put (topL_isOrd l hp (hls l (by simp))) h0 hv) (by omega)
    refine ⟨a, Nat.le_trans hl b, fun i e h => c i e (putD_keep h), fun l' hl' => ?_⟩
    rcases List.mem_cons.1 hl' with rfl | h
    · have := putD_mem (topL p l') v q
      rw [List.mem_map] at this
      obtain ⟨e, he, e1⟩ := this
      obtain ⟨i, hi⟩ := List.getElem?_of_mem he
      exact List.mem_map.2 ⟨e, List.mem_of_getElem? (c i e hi), e1⟩
    · exact d l' h
theorem sF_none {ls : List (List Int)} {f i : Nat} {q : List (List Int × Int)} (h : q[i]? = none) : sF ls (f + 1) i q = q := by
  unfold sF
  rw [h]
theorem sF_some {ls : List (List Int)} {f i : Nat} {q : List (List Int × Int)} {e : List Int × Int} (h : q[i]? = some e) : sF ls (f + 1) i q = sF ls f (i + 1) (sIn e.1 (e.2 + 1) ls q) := by
  rw [sF, h]
theorem sIn_of (n : Nat) (hn : n ≤ 6) {i : Nat} {q : List (List Int × Int)} {a : List Int × Int} (h : GoodQ n q) (e : q[i]? = some a) :
    GoodQ n (sIn a.1 (a.2 + 1) (rowsL n) q) ∧ q.length ≤ (sIn a.1 (a.2 + 1) (rowsL n) q).length ∧ (∀ (i : Nat) (e : List Int × Int), q[i]? = some e → (sIn a.1 (a.2 + 1) (rowsL n) q)[i]? = some e) ∧ ∀ l, l ∈ rowsL n → topL a.1 l ∈ (sIn a.1 (a.2 + 1) (rowsL n) q).map (·.1) := by
  have hi := (List.getElem?_eq_some_iff.1 e).1
  have hd := h.dep i a e
  exact sIn_step n a.1 (a.2 + 1) (h.ord a (List.mem_of_getElem? e)) (by omega) _ q (fun l hl => (rows_ok hn hl).2) h (by omega)
theorem sF_good (n : Nat) (hn : n ≤ 6) : ∀ (f i : Nat) (q : List (List Int × Int)), GoodQ n q → GoodQ n (sF (rowsL n) f i q)
  | 0, _, _, h => h
  | f + 1, i, q, h => by
    cases e : q[i]? with
    | none => rw [sF_none e]; exact h
    | some a => rw [sF_some e]; exact sF_good n hn f (i + 1) _ (sIn_of n hn h e).1
theorem sF_keep (n : Nat) (hn : n ≤ 6) : ∀ (f i : Nat) (q : List (List Int × Int)), GoodQ n q → ∀ (j : Nat) (e : List Int × Int), q[j]? = some e → (sF (rowsL n) f i q)[j]? = some e
  | 0, _, _, _, _, _, h => h
  | f + 1, i, q, hg, j, b, h => by
    cases e : q[i]? with
    | none => rw [sF_none e]; exact h
    | some a => rw [sF_some e]; exact sF_keep n hn f (i + 1) _ (sIn_of n hn hg e).1 j b ((sIn_of n hn hg e).2.2.1 j b h)
theorem sF_closed (n : Nat) (hn : n ≤ 6) : ∀ (f i : Nat) (q : List (List Int × Int)), i + f = 1001 → GoodQ n q → (∀ (j : Nat) (e : List Int × Int), j < i → q[j]? = some e → ∀ l, l ∈ rowsL n → topL e.1 l ∈ q.map (·.1)) →
    ∀ e, e ∈ sF (rowsL n) f i q → ∀ l, l ∈ rowsL n → topL e.1 l ∈ (sF (rowsL n) f i q).map (·.1)
  | 0, i, q, hf, hg, hc => fun e he l hl2 => by
    have hl := hg.le hn
    have he' : e ∈ q := he
    obtain ⟨j, hj⟩ := List.getElem?_of_mem he'
    have := (List.getElem?_eq_some_iff.1 hj).1
    exact hc j e (by omega) hj l hl2
  | f + 1, i, q, hf, hg, hc => by
    cases e : q[i]? with
    | none =>
      rw [sF_none e]
      intro e' he l hl2
      obtain ⟨j, hj⟩ := List.getElem?_of_mem he
      have h1 := (List.getElem?_eq_some_iff.1 hj).1
      have h4 := List.getElem?_eq_none_iff.1 e
      exact hc j e' (by omega) hj l hl2
    | some a =>
      rw [sF_some e]
      obtain ⟨g1, g2, g3, g4⟩ := sIn_of n hn hg e
      refine sF_closed n hn f (i + 1) _ (by omega) g1 (fun j b hj hb l hl => ?_)
      have hil := (List.getElem?_eq_some_iff.1 e).1
      have hb2 : q[j]? = some b := by
        have h5 := g3 j q[j] (List.getElem?_eq_getElem (by omega))
        rw [hb] at h5
        rw [List.getElem?_eq_getElem (by omega)]
        exact h5.symm
      by_cases hji : j < i
      · have := hc j b hji hb2 l hl
        rw [List.mem_map] at this
        obtain ⟨c, hc1, hc2⟩ := this
        obtain ⟨m, hm⟩ := List.getElem?_of_mem hc1
        exact List.mem_map.2 ⟨c, List.mem_of_getElem? (g3 m c hm), hc2⟩
      · have : j = i := by omega
        subst this
        rw [e] at hb2
        injection hb2 with hb2
        subst hb2
        exact g4 l hl
theorem start_good (n : Nat) : GoodQ n [(idL n, 0)] := by
  refine ⟨fun e he => ?_, by simp, fun j e he => ?_⟩
  · rw [List.mem_singleton] at he
    rw [he]
    exact idL_isOrd n
  · have h1 := (List.getElem?_eq_some_iff.1 he).1
    have h2 : j = 0 := by simp at h1; omega
    subst h2
    simp at he
    subst he
    simp
theorem depQ_good (n : Nat) (hn : n ≤ 6) : GoodQ n (depQ n) := sF_good n hn _ _ _ (start_good n)
/-- every order is met -/
theorem depQ_all (n : Nat) (hn : n ≤ 6) {p : List Int} (hp : isOrd n p) : p ∈ (depQ n).map (·.1) := by
  refine ord_closed (S := fun p => p ∈ (depQ n).map (·.1)) ?_ ?_ hp
  · exact List.mem_map.2 ⟨_, List.mem_of_getElem? (sF_keep n hn 1001 0 _ (start_good n) 0 _ rfl), rfl⟩
  · intro q hq r hr
    rw [List.mem_map] at hq
    obtain ⟨e, he, rfl⟩ := hq
    exact sF_closed n hn 1001 0 _ (by omega) (start_good n) (fun j e hj => by omega) e he _ (rows_one hn hr)
/-! the program's search -/
theorem orderKey_ev (p : List Int) (hp : p.length ≤ 1000) : Ev (fun k => impl_orderKey.f k p) (keyB p) := by
  unfold impl_orderKey.f keyB
  have key := Ev.inv (σ := List Int) (L := fun k j s => impl_orderKey.l0 k s p (p.length : Int) (j : Int)) (r := strOfNums (p.map fun x => (wrap64 (48 + x)) % 256)) (n := p.length)
    (Inv := fun j s => s = (p.take j).map fun x => (wrap64 (48 + x)) % 256)
    (fun s hs => by
      subst hs
      refine Ev.succ (Ev.ret fun k => ?_)
      rw [impl_orderKey.l0, if_neg (by omega), List.take_length])
    (fun j s hj hs ih => by
      subst hs
      refine Ev.succ ?_
      have h1 : (j : Int) < (p.length : Int) := by omega
      have h0 : (0 : Int) ≤ (j : Int) := by omega
      have h3 : ((p.take j).map fun x => (wrap64 (48 + x)) % 256).length < 140737488355328 := by rw [List.length_map, List.length_take]; omega
      simp only [impl_orderKey.l0, h1, h0, h3, if_true, rd_nat p j hj, wrap_nat j _ hj (by omega)]
      refine ih _ ?_
      rw [take_snoc p j hj, List.map_append]
      rfl)
  exact key 0 [] (Nat.zero_le _) rfl
theorem isOrd_ok {n : Nat} (hn : n ≤ 6) {p : List Int} (hp : isOrd n p) : ordOk p = true := by
  unfold ordOk
  rw [Bool.and_eq_true]
  refine ⟨decide_eq_true (by have := hp.1; omega), List.all_eq_true.2 fun x hx => decide_eq_true ?_⟩
  have := hp.2.2 x hx
  omega
theorem keyOk_ev {n : Nat} (hn : n ≤ 6) {p : List Int} (hp : isOrd n p) : ∃ K, ∀ k, K ≤ k → keyOk k p = true := by
  obtain ⟨K, hK⟩ := orderKey_ev p (by have := hp.1; omega)
  refine ⟨K, fun k hk => ?_⟩
  unfold keyOk
  rw [isOrd_ok hn hp, Bool.true_and]
  exact decide_eq_true (hK k hk)
theorem all_ev {α : Type} {P : Nat → α → Prop} : ∀ (l : List α), (∀ x, x ∈ l → ∃ K, ∀ k, K ≤ k → P k x) → ∃ K, ∀ k, K ≤ k → ∀ x, x ∈ l → P k x
  | [], _ => ⟨0, fun _ _ x hx => by cases hx⟩
  | a :: l, h => by
    obtain ⟨K1, h1⟩ := h a (by simp)
    obtain ⟨K2, h2⟩ := all_ev l (fun x hx => h x (by simp [hx]))
    refine ⟨max K1 K2, fun k hk x hx => ?_⟩
    rcases List.mem_cons.1 hx with rfl | hx
    · exact h1 k (by omega)
    · exact h2 k (by omega) x hx
/-- rounds enough for each order and each level -/
def Ready (n k : Nat) : Prop := ∀ p, p ∈ allO n → keyOk k p = true ∧ ∀ l, l ∈ rowsL n → impl_laid.f k p l = some (topL p l)
theorem ready_ev (n : Nat) (hn : n ≤ 6) : ∃ K, ∀ k, K ≤ k → Ready n k := by
  refine all_ev (P := fun k p => keyOk k p = true ∧ ∀ l, l ∈ rowsL n → impl_laid.f k p l = some (topL p l)) (allO n) (fun p hp => ?_)
  have ho := (allO_mem n p).1 hp
  obtain ⟨K1, h1⟩ := keyOk_ev hn ho
  obtain ⟨K2, h2⟩ := all_ev (P := fun k l => impl_laid.f k p l = some (topL p l)) (rowsL n) (fun l hl => by
    have hr := rows_ok hn hl
    exact laid_ev p l (by have := ho.1; omega) (by omega) (by rw [ho.1]; exact hr.2))
  exact ⟨max K1 K2, fun k hk => ⟨h1 k (by omega), h2 k (by omega)⟩⟩
theorem depIn_f (n : Nat) (hn : n ≤ 6) (k : Nat) (hr : Ready n k) (p : List Int) (v : Int) (hp : isOrd n p) (h0 : 0 ≤ v) : ∀ (ls : List (List Int)) (q : List (List Int × Int)), (∀ l, l ∈ ls → l ∈ rowsL n) → GoodQ n q → v ≤ (q.length : Int) → depIn k p v ls q = some (sIn p v ls q)
  | [], q, _, _, _ => rfl
  | l :: ls, q, hls, hg, hv => by
    have hl := hls l (by simp)
    have hx := topL_isOrd l hp (rows_ok hn hl).2
    have e1 := (hr p ((allO_mem n p).2 hp)).2 l hl
    have e2 := (hr _ ((allO_mem n _).2 hx)).1
    have e3 := hg.le hn
    unfold depIn
    rw [e1, Option.bind_some, if_pos ⟨e2, by omega⟩]
    exact depIn_f n hn k hr p v hp h0 ls _ (fun l hl => hls l (by simp [hl])) (hg.put hx h0 hv) (by have := putD_len (topL p l) v q; omega)
theorem depL_f (n : Nat) (hn : n ≤ 6) (k : Nat) (hr : Ready n k) : ∀ (f i : Nat) (q : List (List Int × Int)) (g : Nat), i + f = 1001 → f < g → GoodQ n q → depL k (rowsL n) g i q = some (sF (rowsL n) f i q)
  | 0, i, q, g + 1, hf, _, hg => by
    have hl := hg.le hn
    unfold depL
    rw [List.getElem?_eq_none (by omega)]
    rfl
  | f + 1, i, q, g + 1, hf, hfg, hg => by
    unfold depL
    cases e : q[i]? with
    | none => rw [sF_none e]
    | some a =>
      have hl := hg.le hn
      have hi := (List.getElem?_eq_some_iff.1 e).1
      have hd := hg.dep i a e
      have ho := hg.ord a (List.mem_of_getElem? e)
      have e1 : wrap64 (a.2 + 1) = a.2 + 1 := wrap_in (by omega) (by omega)
      simp only
      rw [if_pos ⟨(hr _ ((allO_mem n _).2 ho)).1, by omega⟩, e1, depIn_f n hn k hr a.1 (a.2 + 1) ho (by omega) _ q (fun _ h => h) hg (by omega), Option.bind_some, sF_some e]
      exact depL_f n hn k hr f (i + 1) _ g (by omega) (by omega) (sIn_of n hn hg e).1
theorem identity_ev (n : Nat) (hn : n ≤ 1000) : Ev (fun k => impl_identity.f k (n : Int)) (idL n) := by
  unfold impl_identity.f
  have key := Ev.inv (σ := List Int) (L := fun k j s => impl_identity.l0 k s (n : Int) (j : Int)) (r := idL n) (n := n)
    (Inv := fun j s => s = idL j)
    (fun s hs => by
      subst hs
      refine Ev.succ (Ev.ret fun k => ?_)
      rw [impl_identity.l0, if_neg (by omega)])
    (fun j s hj hs ih => by
      subst hs
      refine Ev.succ ?_
      have h1 : (j : Int) < (n : Int) := by omega
      have h3 : (idL j).length < 17592186044416 := by simp [idL]; omega
      simp only [impl_identity.l0, h1, h3, if_true, wrap_nat j n hj (by omega)]
      refine ih _ ?_
      unfold idL
      rw [List.range_succ, List.map_append]
      rfl)
  exact key 0 [] (Nat.zero_le _) rfl
theorem depths_ev (n : Nat) (hn1 : 2 ≤ n) (hn : n ≤ 6) : Ev (fun k => impl_depths.f k (n : Int)) (depQ n) := by
  obtain ⟨K1, h1⟩ := identity_ev n (by omega)
  obtain ⟨K2, h2⟩ := ready_ev n hn
  refine ⟨max (max K1 K2) 1002, fun k hk => ?_⟩
  have e1 : impl_identity.f k (n : Int) = some (idL n) := h1 k (by omega)
  show impl_depths.f k (n : Int) = _
  unfold impl_depths.f
  rw [if_pos (by omega), e1, Option.bind_some, if_pos (h2 k (by omega) _ ((allO_mem n _).2 (idL_isOrd n))).1]
  exact depL_f n hn k (h2 k (by omega)) 1001 0 _ k (by omega) (by omega) (start_good n)
end Go.Proofs.Ytojbmihkdlkkcaa.Q
