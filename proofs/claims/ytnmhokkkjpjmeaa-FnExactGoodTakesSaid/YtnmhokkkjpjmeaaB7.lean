/- The walks of functions of the given program and of its reference: each call of the machine returns what the plain Lean function of the same name says. Conditions: those in each statement. (Written by this session's program over the kit's print.) -/
import Derived.Test.YtnmhokkkjpjmeaaB0
import Derived.Test.YtnmhokkkjpjmeaaB1
import Derived.Test.YtnmhokkkjpjmeaaB6
namespace Go.Proofs.Ytnmhokkkjpjmeaa.B
open Go.RowKit Go.Proofs.YtnmhokkkjpjmeaaW.PrintWords Go.Proofs.YtnmhokkkjpjmeaaW.PrintLast Go.Proofs.YtnmhokkkjpjmeaaW.PrintMore
attribute [local go_sem] max2_int min2_int max_two min_two max_three min_three max_four min_four   -- for this text's walks alone
set_option linter.unusedVariables false
set_option linter.unusedSimpArgs false

/-! ### spec_gaNew: function 43 -/
/-- the reference's taking game: what is worked out for a set from the sets with one rung less -/
def nwStep (hs : List Bool) (ls : List Int) (s i : Nat) (q : Int × Int) : Int × Int :=
  if s / 2 ^ i % 2 = 0 then q
  else if hs.getD (s - 2 ^ i) false = true then (1, q.2)
  else if ls.getD (s - 2 ^ i) 0 < 0 ∧ (q.1 = 0 ∨ wrap64 (1 - ls.getD (s - 2 ^ i) 0) < q.1) then (wrap64 (1 - ls.getD (s - 2 ^ i) 0), q.2)
  else if 0 < ls.getD (s - 2 ^ i) 0 then (q.1, if q.2 > wrap64 (1 + ls.getD (s - 2 ^ i) 0) then q.2 else wrap64 (1 + ls.getD (s - 2 ^ i) 0)) else q
def nwIn (hs : List Bool) (ls : List Int) (s : Nat) : Nat → Nat → Int × Int → Int × Int
  | 0, _, q => q
  | d + 1, i, q => nwIn hs ls s d (i + 1) (nwStep hs ls s i q)
def nwEnd (q : Int × Int) : Int := if q.1 = 0 then wrap64 (-q.2) else q.1
def nwGo (hm : Nat → Option Bool) (n : Nat) : Nat → Nat → List Bool → List Int → Option (List Bool × List Int)
  | 0, _, hs, ls => some (hs, ls)
  | d + 1, s, hs, ls => (hm s).bind fun b => if b = true then nwGo hm n d (s + 1) (hs.set s true) ls else nwGo hm n d (s + 1) (hs.set s false) (ls.set s (nwEnd (nwIn (hs.set s false) ls s n 0 (0, 0))))
theorem nwGo_mono {hm hm' : Nat → Option Bool} (h : ∀ s, LeO (hm s) (hm' s)) (n : Nat) : ∀ d s hs ls, LeO (nwGo hm n d s hs ls) (nwGo hm' n d s hs ls)
  | 0, _, _, _ => LeO.refl _
  | d + 1, s, hs, ls => LeO.bind (h s) fun _ => LeO.ite (nwGo_mono h n d _ _ _) (nwGo_mono h n d _ _ _)
def nwHome (k : Nat) (a : Int) (l : List Int) (s : Nat) : Option Bool := (spec_gaLeft.f k a l (s : Int)).bind fun lf => spec_gaHome.f k a lf
theorem nwHome_mono (k : Nat) (a : Int) (l : List Int) (s : Nat) : LeO (nwHome k a l s) (nwHome (k + 1) a l s) := LeO.bind (spec_gaLeft.mono _ _ _ _) fun _ => spec_gaHome.mono _ _ _
def gaNewF (k : Nat) (a : Int) (l : List Int) : Option (List Bool × List Int) := if l.length ≤ 12 then nwGo (nwHome k a l) l.length (2 ^ l.length) 0 (List.replicate (2 ^ l.length) false) (List.replicate (2 ^ l.length) 0) else none
theorem gaNewF_mono (k : Nat) (a : Int) (l : List Int) : LeO (gaNewF k a l) (gaNewF (k + 1) a l) := LeO.ite (nwGo_mono (nwHome_mono k a l) _ _ _ _ _) (LeO.refl _)
/-- the reference's game in memory -/
theorem clrI_all : (List.range 12).all (fun t => (List.range 4096).all (fun s => s / 2 ^ t % 2 == 0 || decide (Go.bits .andNot .i64 (s : Int) (wrap64 (2 ^ t)) = ((s - 2 ^ t : Nat) : Int)))) = true := by decide +kernel
theorem clrI_eq (s t : Nat) (hs : s < 4096) (ht : t < 12) (h : ¬ s / 2 ^ t % 2 = 0) : Go.bits .andNot .i64 (s : Int) (wrap64 (2 ^ t)) = ((s - 2 ^ t : Nat) : Int) := by
  have h1 := List.all_eq_true.1 (List.all_eq_true.1 clrI_all t (by simpa using ht)) s (by simpa using hs)
  rw [Bool.or_eq_true] at h1
  rcases h1 with h1 | h1
  · exact absurd (by simpa using h1) h
  · exact of_decide_eq_true h1
def GaB (A : Option Addr) (c : Nat) (a : Int) (l : List Int) (g gh gl N : Nat) (hs : List Bool) (ls : List Int) (w : World) : Prop :=
  w.heap[g]? = some (.cells #[.int .i64 a, .slice A l.length c, .slice (some ⟨gh, 0, none⟩) N N, .slice (some ⟨gl, 0, none⟩) N N] 58 (0, 0)) ∧ w.heap[gh]? = some (.cells (hs.map Value.bool).toArray 4 (0, 0)) ∧ w.heap[gl]? = some (.cells (ls.map (Value.int .i64)).toArray 3 (0, 0)) ∧ hs.length = N ∧ ls.length = N
section
variable {w w1 : World} {A : Option Addr} {c : Nat} {a : Int} {l : List Int} {g gh gl N : Nat} {hs : List Bool} {ls : List Int}
theorem GaB.below (h : GaB A c a l g gh gl N hs ls w) (hb : Below w.heap.size w w1) : GaB A c a l g gh gl N hs ls w1 := ⟨blk_below h.1 hb, blk_below h.2.1 hb, blk_below h.2.2.1 hb, h.2.2.2⟩
theorem GaB.drew (h : GaB A c a l g gh gl N hs ls w) : GaB A c a l g gh gl N hs ls w.drew := h
theorem GaB.drewN (h : GaB A c a l g gh gl N hs ls w) (q : Nat) : GaB A c a l g gh gl N hs ls (w.drewN q) := h
theorem GaB.putH (h : GaB A c a l g gh gl N hs ls w) (i : Nat) (b : Bool) : GaB A c a l g gh gl N (hs.set i b) ls (w.setCell ⟨gh, i, none⟩ (.bool b)) :=
  ⟨blk_far h.1 (p := ⟨gh, i, none⟩) (blk_ne h.1 h.2.1 (by decide)) _, blk_put h.2.1 i _ (by simp [List.map_set]), blk_far h.2.2.1 (p := ⟨gh, i, none⟩) (blk_ne h.2.2.1 h.2.1 (by decide)) _, by rw [List.length_set]; exact h.2.2.2.1, h.2.2.2.2⟩
theorem GaB.putL (h : GaB A c a l g gh gl N hs ls w) (i : Nat) (x : Int) : GaB A c a l g gh gl N hs (ls.set i x) (w.setCell ⟨gl, i, none⟩ (.int .i64 x)) :=
  ⟨blk_far h.1 (p := ⟨gl, i, none⟩) (blk_ne h.1 h.2.2.1 (by decide)) _, blk_far h.2.1 (p := ⟨gl, i, none⟩) (blk_ne h.2.1 h.2.2.1 (by decide)) _, blk_put h.2.2.1 i _ (by simp [List.map_set]), h.2.2.2.1, by rw [List.length_set]; exact h.2.2.2.2⟩
theorem GaB.atH (h : GaB A c a l g gh gl N hs ls w) (i : Nat) (hi : i < N) : w.cell? ⟨gh, i, none⟩ = some (.bool (hs.getD i false)) := by
  have hl := h.2.2.2.1
  rw [blk_cell h.2.1 i, List.getElem?_toArray, List.getElem?_map, List.getD_eq_getElem?_getD, List.getElem?_eq_getElem (by omega)]; rfl
theorem GaB.atL (h : GaB A c a l g gh gl N hs ls w) (i : Nat) (hi : i < N) : w.cell? ⟨gl, i, none⟩ = some (.int .i64 (ls.getD i 0)) := by
  have hl := h.2.2.2.2
  rw [blk_cell h.2.2.1 i, List.getElem?_toArray, List.getElem?_map, List.getD_eq_getElem?_getD, List.getElem?_eq_getElem (by omega)]; rfl
end
theorem GaB.grown {w w1 : World} {A : Option Addr} {c : Nat} {a : Int} {l : List Int} {g gh gl N : Nat} {hs : List Bool} {ls : List Int} {row : Option Nat} (h : GaB A c a l g gh gl N hs ls w) (hg : w.grownBy w1 row) (hr : ∀ k, row = some k → k ≠ g ∧ k ≠ gh ∧ k ≠ gl) : GaB A c a l g gh gl N hs ls w1 :=
  ⟨blk_grown h.1 hg (fun e => (hr g e.symm).1 rfl), blk_grown h.2.1 hg (fun e => (hr gh e.symm).2.1 rfl), blk_grown h.2.2.1 hg (fun e => (hr gl e.symm).2.2 rfl), h.2.2.2⟩
theorem made_one (z : Value) (hz : z.cells = #[z]) (m : Nat) : (madeCells z.cells (m * 1)) = (List.replicate m z).toArray := by
  apply Array.ext
  · simp [size_madeCells]
  · intro i h1 h2
    simp [madeCells, hz, Nat.mod_one]
theorem make_run {P : Program} (W : World) (t e : TypeId) (z : Value) (bytes : Nat) (N : Nat) (ht : P.underlying t = some (.slice e)) (hinfo : (P.info? e).map (fun i => (i.zero, i.size, i.bytes)) = some (some z, 1, bytes)) (hz : z.cells = #[z]) (hb : bytes * N ≤ 281474976710656) (hN : N ≤ 9223372036854775807) :
    (Instr.makeSlice t (.int .i64 (N : Int)) (.int .i64 (N : Int))).run P W = .ok (.slice (some ⟨W.heap.size, 0, none⟩) N N) (W.alloc (.cells (List.replicate N z).toArray e (0, 0))) := by
  obtain ⟨i0, hi, hzz⟩ := Option.map_eq_some_iff.1 hinfo
  simp only [Prod.mk.injEq] at hzz
  obtain ⟨hz0, hz1, hz2⟩ := hzz
  have h4 : (i0.bytes : Int) * (N : Int) ≤ 281474976710656 := by
    have h3 : ((i0.bytes * N : Nat) : Int) ≤ 281474976710656 := by rw [hz2]; omega
    rwa [Int.natCast_mul] at h3
  have hr := run_make (P := P) W t e i0 z ht hi hz0 .i64 .i64 (N : Int) (N : Int) (by omega) (by omega) h4 (by omega)
  simp only [Int.toNat_natCast] at hr
  rw [hz1, made_one z hz] at hr
  exact hr
theorem infoBool_ : (Try.prog.info? 4).map (fun i => (i.zero, i.size, i.bytes)) = some (some (.bool false), 1, 1) := by kernel_rfl
set_option maxHeartbeats 4000000 in
set_option maxRecDepth 100000 in
theorem gaNew_calls (k : Nat) (a : Int) (A0 : Option Addr) (c0 : Nat) (l : List Int) (hs : List Bool) (ls : List Int) (w : World) (hr : Kd.C (Kd.int .i64) w A0 l.length l) (hc : l.length ≤ c0) (h : gaNewF k a l = some (hs, ls)) :
    Calls Try.prog 43 #[.agg #[.int .i64 a, .slice A0 l.length c0]] w fun e w' => ∃ g gh gl, e = .returned (.pointer (some ⟨g, 0, none⟩)) ∧ GaB A0 c0 a l g gh gl (2 ^ l.length) hs ls w' ∧ Below w.heap.size w w' := by
  have hu28 := Try.underlying28
  have hu58 := Try.underlying58
  have HR := Aside0.mk hr
  have HC := Aside0.mk hc
  have HB := Aside0.mk (Below.refl w.heap.size w)
  unfold gaNewF at h
  by_cases hn : l.length ≤ 12
  case neg => rw [if_neg hn] at h; cases h
  rw [if_pos hn] at h
  obtain ⟨N, hN⟩ : ∃ N, N = 2 ^ l.length := ⟨_, rfl⟩
  rw [← hN] at h ⊢
  have hN1 : 1 ≤ N := by rw [hN]; exact Nat.one_le_two_pow
  have hN2 : N ≤ 4096 := by have h1 := Nat.pow_le_pow_right (n := 2) (by decide) hn; rw [hN]; omega
  have hshl : wrap64 ((2 : Int) ^ min l.length 64) = (N : Int) := by
    have e : ((2 : Int) ^ min l.length 64) = (N : Int) := by rw [Nat.min_eq_left (by omega), hN]; push_cast; rfl
    rw [e]; unfold wrap64; omega
  have HN := Lib.hid hN
  have HN1 := Lib.hid hN1
  have HN2 := Lib.hid hN2
  have HN12 := Lib.hid hn
  have HM := Aside0.mk h
  clear hr hc h hN hN1 hN2 hn
  go_enter Try.func43, Try.ntmps43
  go_wp2_with (first | ((with_reducible refine gate_dst (N := 1) rfl ?_); refine box_event ?hg (N := 1) ?hd (cs := #[.int .i64 a, .slice A0 l.length c0]) (t := 28) ?hr ?_; (case hd => rfl); (case hg => rfl); (case hr => first | (go_simp; done) | (go_simp; rfl)); intro gb hg w1 hbox hb; have n0_ := Aside0.mk (below_step HB.out hb); clear HB; have HB := n0_; clear n0_; have BKL := Aside0.mk hbox; clear hbox hb hg; have hcz0 : w1.cell? ⟨gb, 0, none⟩ = some (.int .i64 a) := (blk_cell BKL.out 0).trans rfl; have hcz1 : w1.cell? ⟨gb, 1, none⟩ = some (.slice A0 l.length c0) := (blk_cell BKL.out 1).trans rfl))
  have BK2 := Aside0.mk (blk_drew BKL.out)
  have HB2 := Aside0.mk (below_drew1 HB.out)
  clear BKL HB hcz0 hcz1
  refine start_ (n := 8) (S := fun w' => w'.cell? ⟨gb, 0, none⟩ = some (.int .i64 a) ∧ w'.cell? ⟨gb, 1, none⟩ = some (.slice A0 l.length c0)) (ds := []) #[false, false, false, false, false, false, false, false] (by kernel_rfl) rfl rfl ⟨(blk_cell BK2.out 0).trans rfl, (blk_cell BK2.out 1).trans rfl⟩ (fun hHeld => ?_)
  generalize w1.drew = w2 at BK2 HB2 hHeld ⊢
  refine take_ (i := 0) (N := some 14) (v := ?_) (a' := ?_) #[true, false, false, false, false, false, false, false] rfl rfl (by kernel_rfl) (fun _ _ _ h => h) (Or.inl ⟨by rfl, ?_⟩) hHeld ?_ ?_
  rotate_left
  · rintro w' ⟨s0, s1⟩
    go_simp
    with_reducible rfl
  rotate_left
  · simp only [Act.put, List.setIfInBounds_toArray, List.set_cons_zero, List.set_cons_succ, i64_w, i32_w]
    rfl
  refine pure_ (i := 1) (N := some 15) (v := ?_) (a' := ?_) #[true, true, false, false, false, false, false, false] rfl rfl (by kernel_rfl) (fun _ _ _ h => h) (Or.inl ⟨by rfl, ?_⟩) ?_ ?_
  rotate_left
  · intro w'
    go_simp
    with_reducible rfl
  rotate_left
  · simp only [Act.put, List.setIfInBounds_toArray, List.set_cons_zero, List.set_cons_succ, i64_w, i32_w]
    rfl
  refine pure_ (i := 3) (N := some 17) (v := ?_) (a' := ?_) #[true, true, false, true, false, false, false, false] rfl rfl (by kernel_rfl) (fun _ _ _ h => h) (Or.inl ⟨by rfl, ?_⟩) ?_ ?_
  rotate_left
  · intro w'
    go_simp
    with_reducible rfl
  rotate_left
  · simp only [Act.put, List.setIfInBounds_toArray, List.set_cons_zero, List.set_cons_succ, i64_w, i32_w]
    rfl
  have hmk4 := fun W : World => make_run (P := Try.prog) W 56 4 (.bool false) 1 N Try.underlying56 infoBool_ rfl (by have := HN2.out; omega) (by have := HN2.out; omega)
  have hmk3 := fun W : World => make_run (P := Try.prog) W 22 3 (.int .i64 0) 8 N Try.underlying22 info3 rfl (by have := HN2.out; omega) (by have := HN2.out; omega)
  refine join_ (σ := Nat × Nat) 3 #[true, true, true, true, true, false, false, false] (fun s => [(16, .slice (some ⟨s.1, 0, none⟩) N N), (18, .slice (some ⟨s.2, 0, none⟩) N N)]) (fun s w' => Below w.heap.size w w' ∧ w'.heap[gb]? = some (.cells #[.int .i64 a, .slice A0 l.length c0] 28 (0, 0)) ∧ w'.heap[s.1]? = some (.cells (List.replicate N (Value.bool false)).toArray 4 (0, 0)) ∧ w'.heap[s.2]? = some (.cells (List.replicate N (Value.int .i64 0)).toArray 3 (0, 0)) ∧ w.heap.size ≤ s.1 ∧ w.heap.size ≤ s.2) (fun s w3 hF => ?_) (fun hJ => ?_)
  rotate_left
  · refine two_ (i := 2) (j := 4) (Ni := some 16) (Nj := some 18) #[true, true, true, true, false, false, false, false] #[true, true, false, true, true, false, false, false] rfl rfl rfl rfl (by kernel_rfl) (by decide) (by decide) (fun K hK => ?_) (fun K hK => ?_)
    · refine event_step (by rfl) (v := .slice (some ⟨w2.heap.size, 0, none⟩) N N) (w1 := w2.alloc (.cells (List.replicate N (Value.bool false)).toArray 4 (0, 0))) (by go_simp) ?_
      have BK3 := Aside0.mk (blk_alloc BK2.out (.cells (List.replicate N (Value.bool false)).toArray 4 (0, 0)))
      have HB3 := Aside0.mk (below_alloc HB2.out (.cells (List.replicate N (Value.bool false)).toArray 4 (0, 0)))
      have HX3 := Aside0.mk (blk_new w2 (.cells (List.replicate N (Value.bool false)).toArray 4 (0, 0)))
      have HZ3 := Aside0.mk (below_size HB2.out)
      generalize w2.alloc (.cells (List.replicate N (Value.bool false)).toArray 4 (0, 0)) = w3 at BK3 HB3 HX3 ⊢
      generalize w2.heap.size = gh at HX3 HZ3 ⊢
      clear BK2 HB2
      refine hK.out _ _ ⟨(blk_cell BK3.out 0).trans rfl, (blk_cell BK3.out 1).trans rfl⟩ (fun hHeld => ?_)
      clear hK K
      refine norm_ (a' := ?_) ?_ ?_
      rotate_left
      · show Act.put _ (some 16) _ = _
        simp only [Act.put, List.setIfInBounds_toArray, List.set_cons_zero, List.set_cons_succ, i64_w, i32_w]
        rfl
      refine one_ (i := 4) (N := some 18) #[true, true, true, true, true, false, false, false] rfl rfl (by kernel_rfl) (by decide) (fun K hK => ?_)
      refine event_step (by rfl) (v := .slice (some ⟨w3.heap.size, 0, none⟩) N N) (w1 := w3.alloc (.cells (List.replicate N (Value.int .i64 0)).toArray 3 (0, 0))) (by go_simp) ?_
      have BK4 := Aside0.mk (blk_alloc BK3.out (.cells (List.replicate N (Value.int .i64 0)).toArray 3 (0, 0)))
      have HB4 := Aside0.mk (below_alloc HB3.out (.cells (List.replicate N (Value.int .i64 0)).toArray 3 (0, 0)))
      have HX4 := Aside0.mk (blk_alloc HX3.out (.cells (List.replicate N (Value.int .i64 0)).toArray 3 (0, 0)))
      have HY4 := Aside0.mk (blk_new w3 (.cells (List.replicate N (Value.int .i64 0)).toArray 3 (0, 0)))
      have HZ4 := Aside0.mk (below_size HB3.out)
      refine hK.out _ _ ⟨(blk_cell BK4.out 0).trans rfl, (blk_cell BK4.out 1).trans rfl⟩ (fun hHeld => ?_)
      clear hK K
      have hj := hJ (gh, w3.heap.size) _ ⟨HB4.out, BK4.out, HX4.out, HY4.out, HZ3.out, HZ4.out⟩
      simp only [putAll, Act.put, List.setIfInBounds_toArray, List.set_cons_zero, List.set_cons_succ] at hj
      simp only [Act.put, List.setIfInBounds_toArray, List.set_cons_zero, List.set_cons_succ]
      exact hj
    · refine event_step (by rfl) (v := .slice (some ⟨w2.heap.size, 0, none⟩) N N) (w1 := w2.alloc (.cells (List.replicate N (Value.int .i64 0)).toArray 3 (0, 0))) (by go_simp) ?_
      have BK3 := Aside0.mk (blk_alloc BK2.out (.cells (List.replicate N (Value.int .i64 0)).toArray 3 (0, 0)))
      have HB3 := Aside0.mk (below_alloc HB2.out (.cells (List.replicate N (Value.int .i64 0)).toArray 3 (0, 0)))
      have HX3 := Aside0.mk (blk_new w2 (.cells (List.replicate N (Value.int .i64 0)).toArray 3 (0, 0)))
      have HZ3 := Aside0.mk (below_size HB2.out)
      generalize w2.alloc (.cells (List.replicate N (Value.int .i64 0)).toArray 3 (0, 0)) = w3 at BK3 HB3 HX3 ⊢
      generalize w2.heap.size = gl at HX3 HZ3 ⊢
      clear BK2 HB2
      refine hK.out _ _ ⟨(blk_cell BK3.out 0).trans rfl, (blk_cell BK3.out 1).trans rfl⟩ (fun hHeld => ?_)
      clear hK K
      refine norm_ (a' := ?_) ?_ ?_
      rotate_left
      · show Act.put _ (some 18) _ = _
        simp only [Act.put, List.setIfInBounds_toArray, List.set_cons_zero, List.set_cons_succ, i64_w, i32_w]
        rfl
      refine one_ (i := 2) (N := some 16) #[true, true, true, true, true, false, false, false] rfl rfl (by kernel_rfl) (by decide) (fun K hK => ?_)
      refine event_step (by rfl) (v := .slice (some ⟨w3.heap.size, 0, none⟩) N N) (w1 := w3.alloc (.cells (List.replicate N (Value.bool false)).toArray 4 (0, 0))) (by go_simp) ?_
      have BK4 := Aside0.mk (blk_alloc BK3.out (.cells (List.replicate N (Value.bool false)).toArray 4 (0, 0)))
      have HB4 := Aside0.mk (below_alloc HB3.out (.cells (List.replicate N (Value.bool false)).toArray 4 (0, 0)))
      have HX4 := Aside0.mk (blk_alloc HX3.out (.cells (List.replicate N (Value.bool false)).toArray 4 (0, 0)))
      have HY4 := Aside0.mk (blk_new w3 (.cells (List.replicate N (Value.bool false)).toArray 4 (0, 0)))
      have HZ4 := Aside0.mk (below_size HB3.out)
      refine hK.out _ _ ⟨(blk_cell BK4.out 0).trans rfl, (blk_cell BK4.out 1).trans rfl⟩ (fun hHeld => ?_)
      clear hK K
      have hj := hJ (w3.heap.size, gl) _ ⟨HB4.out, BK4.out, HY4.out, HX4.out, HZ4.out, HZ3.out⟩
      simp only [putAll, Act.put, List.setIfInBounds_toArray, List.set_cons_zero, List.set_cons_succ] at hj
      simp only [Act.put, List.setIfInBounds_toArray, List.set_cons_zero, List.set_cons_succ]
      exact hj
  · obtain ⟨gh, gl⟩ := s
    obtain ⟨hb3, hbk3, hh3, hl3, hzh, hzl⟩ := hF
    have HB3 := Aside0.mk hb3
    have BK3 := Aside0.mk hbk3
    have HH3 := Aside0.mk hh3
    have HL3 := Aside0.mk hl3
    have ZH := Aside0.mk hzh
    have ZL := Aside0.mk hzl
    clear hb3 hbk3 hh3 hl3 hzh hzl BK2 HB2 hHeld hmk4 hmk3
    simp only [putAll, Act.put, List.setIfInBounds_toArray, List.set_cons_zero, List.set_cons_succ]
    refine pure_ (i := 5) (N := some 19) (v := ?_) (a' := ?_) #[true, true, true, true, true, true, false, false] rfl rfl (by kernel_rfl) (fun _ _ _ h => h) (Or.inl ⟨by rfl, ?_⟩) ?_ ?_
    rotate_left
    · intro w'
      go_simp
      with_reducible rfl
    rotate_left
    · simp only [Act.put, List.setIfInBounds_toArray, List.set_cons_zero, List.set_cons_succ, i64_w, i32_w]
      rfl
    refine one_ (i := 6) (N := some 20) #[true, true, true, true, true, true, true, false] rfl rfl (by kernel_rfl) (by decide) (fun K hK => ?_)
    refine box_step (by rfl) (N := 20) rfl (cs := #[.int .i64 a, .slice A0 l.length c0, .slice (some ⟨gh, 0, none⟩) N N, .slice (some ⟨gl, 0, none⟩) N N]) (t := 58) (by first | (go_simp; done) | (go_simp; rfl)) ?_
    intro g hg w4 hbox hb
    have BK4 := Aside0.mk (blk_below BK3.out hb)
    have HB4 := Aside0.mk (below_step HB3.out hb)
    have HG := Aside0.mk (show GaB A0 c0 a l g gh gl N (List.replicate N false) (List.replicate N 0) w4 from ⟨hbox, by rw [List.map_replicate]; exact blk_below HH3.out hb, by rw [List.map_replicate]; exact blk_below HL3.out hb, List.length_replicate, List.length_replicate⟩)
    have ZG := Aside0.mk (show w.heap.size ≤ g by rw [hg]; exact HB3.out.size)
    clear BK3 HB3 HH3 HL3 hbox hb hg
    refine hK.out _ _ ⟨(blk_cell BK4.out 0).trans rfl, (blk_cell BK4.out 1).trans rfl⟩ (fun hHeld => ?_)
    clear hK K
    refine norm_ (a' := ?_) ?_ ?_
    rotate_left
    · show Act.put _ (some 20) _ = _
      simp only [Act.put, List.setIfInBounds_toArray, List.set_cons_zero, List.set_cons_succ, i64_w, i32_w]
      rfl
    refine pure_ (i := 7) (N := some 4) (v := ?_) (a' := ?_) #[true, true, true, true, true, true, true, true] rfl rfl (by kernel_rfl) (fun _ _ _ h => h) (Or.inl ⟨by rfl, ?_⟩) ?_ ?_
    rotate_left
    · intro w'
      go_simp
      with_reducible rfl
    rotate_left
    · simp only [Act.put, List.setIfInBounds_toArray, List.set_cons_zero, List.set_cons_succ, i64_w, i32_w]
      rfl
    refine done_ (by kernel_rfl) ?_
    clear hHeld
    go_wp2
    go_loopg [5] N (fun gg v5 wr => ∃ (d s : Nat) (hs1 : List Bool) (ls1 : List Int), d ≤ gg ∧ s + d = N ∧ v5 = .int .i64 (s : Int) ∧ Aside0 (nwGo (nwHome k a l) l.length d s hs1 ls1 = some (hs, ls)) ∧ Aside0 (GaB A0 c0 a l g gh gl N hs1 ls1 wr) ∧ Aside0 (wr.heap[gb]? = some (.cells #[.int .i64 a, .slice A0 l.length c0] 28 (0, 0))) ∧ Aside0 (Below w.heap.size w wr))
    case atStart => exact ⟨N, 0, _, _, Nat.le_refl _, Nat.zero_add _, rfl, HM, HG, BK4, HB4⟩
    case round =>
      clear HG BK4 HB4 HM
      obtain ⟨d, s, hs1, ls1, hgg, hsd, rfl, HM, HG, BK, HB⟩ := hrel
      cases d with
      | zero =>
        have d1 : decide (s < N) = false := decide_eq_false (by omega)
        have hm := HM.out
        rw [nwGo] at hm
        injection hm with hm
        injection hm with hm1 hm2
        subst hm1 hm2
        clear hgg hsd
        go_wp2
        go_ret
        exact ⟨g, gh, gl, rfl, HG.out, HB.out⟩
      | succ d =>
        have hsN : s < N := by omega
        have d1 : decide (s < N) = true := decide_eq_true (by omega)
        have hm := HM.out
        rw [nwGo] at hm
        replace hm := Option.bind_eq_some_iff.mp hm
        obtain ⟨b, hb, hm⟩ := hm
        unfold nwHome at hb
        replace hb := Option.bind_eq_some_iff.mp hb
        obtain ⟨lf, hlf, hhm⟩ := hb
        have HLF := Aside0.mk hlf
        have HHM := Aside0.mk hhm
        have HSN := Lib.hid hsN
        have HGG := Lib.hid hgg
        have HSD := Lib.hid hsd
        have HWI := Lib.hid (show wrap64 ((s : Int) + 1) = ((s + 1 : Nat) : Int) by have := HN2.out; unfold wrap64; omega)
        clear hlf hhm hsN hgg hsd HM
        go_wp2
        have BK2 := Aside0.mk (blk_drew BK.out)
        have HB2 := Aside0.mk (below_drew1 HB.out)
        have HG2 := Aside0.mk HG.out.drew
        clear BK HB HG
        refine start_ (n := 13) (S := fun w' => w'.cell? ⟨g, 2, none⟩ = some (.slice (some ⟨gh, 0, none⟩) N N) ∧ w'.cell? ⟨gb, 0, none⟩ = some (.int .i64 a) ∧ w'.cell? ⟨gb, 1, none⟩ = some (.slice A0 l.length c0)) (ds := []) #[false, false, false, false, false, false, false, false, false, false, false, false, false] (by kernel_rfl) rfl rfl ⟨(blk_cell HG2.out.1 2).trans rfl, (blk_cell BK2.out 0).trans rfl, (blk_cell BK2.out 1).trans rfl⟩ (fun hHeld => ?_)
        generalize wr.drew = w5 at BK2 HB2 HG2 hHeld ⊢
        refine pure_ (i := 0) (N := some 26) (v := ?_) (a' := ?_) #[true, false, false, false, false, false, false, false, false, false, false, false, false] rfl rfl (by kernel_rfl) (fun _ _ _ h => h) (Or.inl ⟨by rfl, ?_⟩) ?_ ?_
        rotate_left
        · intro w'
          go_simp
          with_reducible rfl
        rotate_left
        · simp only [Act.put, List.setIfInBounds_toArray, List.set_cons_zero, List.set_cons_succ, i64_w, i32_w]
          rfl
        refine pure_ (i := 1) (N := some 27) (v := ?_) (a' := ?_) #[true, true, false, false, false, false, false, false, false, false, false, false, false] rfl rfl (by kernel_rfl) (fun _ _ _ h => h) (Or.inl ⟨by rfl, ?_⟩) ?_ ?_
        rotate_left
        · intro w'
          go_simp
          with_reducible rfl
        rotate_left
        · simp only [Act.put, List.setIfInBounds_toArray, List.set_cons_zero, List.set_cons_succ, i64_w, i32_w]
          rfl
        refine pure_ (i := 2) (N := some 28) (v := ?_) (a' := ?_) #[true, true, true, false, false, false, false, false, false, false, false, false, false] rfl rfl (by kernel_rfl) (fun _ _ _ h => h) (Or.inl ⟨by rfl, ?_⟩) ?_ ?_
        rotate_left
        · intro w'
          go_simp
          with_reducible rfl
        rotate_left
        · simp only [Act.put, List.setIfInBounds_toArray, List.set_cons_zero, List.set_cons_succ, i64_w, i32_w]
          rfl
        refine take_ (i := 3) (N := some 29) (v := ?_) (a' := ?_) #[true, true, true, true, false, false, false, false, false, false, false, false, false] rfl rfl (by kernel_rfl) (fun _ _ _ h => h) (Or.inl ⟨by rfl, ?_⟩) hHeld ?_ ?_
        rotate_left
        · rintro w' ⟨s0, s1, s2⟩
          go_simp
          with_reducible rfl
        rotate_left
        · simp only [Act.put, List.setIfInBounds_toArray, List.set_cons_zero, List.set_cons_succ, i64_w, i32_w]
          rfl
        refine pure_ (i := 4) (N := some 30) (v := ?_) (a' := ?_) #[true, true, true, true, true, false, false, false, false, false, false, false, false] rfl rfl (by kernel_rfl) (fun _ _ _ h => h) (Or.inl ⟨by rfl, ?_⟩) ?_ ?_
        rotate_left
        · intro w'
          go_simp
          with_reducible rfl
        rotate_left
        · simp only [Act.put, List.setIfInBounds_toArray, List.set_cons_zero, List.set_cons_succ, i64_w, i32_w]
          rfl
        refine pure_ (i := 5) (N := some 31) (v := ?_) (a' := ?_) #[true, true, true, true, true, true, false, false, false, false, false, false, false] rfl rfl (by kernel_rfl) (fun _ _ _ h => h) (Or.inl ⟨by rfl, ?_⟩) ?_ ?_
        rotate_left
        · intro w'
          go_simp
          with_reducible rfl
        rotate_left
        · simp only [Act.put, List.setIfInBounds_toArray, List.set_cons_zero, List.set_cons_succ, i64_w, i32_w]
          rfl
        refine take_ (i := 6) (N := some 32) (v := ?_) (a' := ?_) #[true, true, true, true, true, true, true, false, false, false, false, false, false] rfl rfl (by kernel_rfl) (fun _ _ _ h => h) (Or.inl ⟨by rfl, ?_⟩) hHeld ?_ ?_
        rotate_left
        · rintro w' ⟨s0, s1, s2⟩
          go_simp
          with_reducible rfl
        rotate_left
        · simp only [Act.put, List.setIfInBounds_toArray, List.set_cons_zero, List.set_cons_succ, i64_w, i32_w]
          rfl
        refine take_ (i := 7) (N := some 33) (v := ?_) (a' := ?_) #[true, true, true, true, true, true, true, true, false, false, false, false, false] rfl rfl (by kernel_rfl) (fun _ _ _ h => h) (Or.inl ⟨by rfl, ?_⟩) hHeld ?_ ?_
        rotate_left
        · rintro w' ⟨s0, s1, s2⟩
          go_simp
          with_reducible rfl
        rotate_left
        · simp only [Act.put, List.setIfInBounds_toArray, List.set_cons_zero, List.set_cons_succ, i64_w, i32_w]
          rfl
        refine pure_ (i := 8) (N := some 34) (v := ?_) (a' := ?_) #[true, true, true, true, true, true, true, true, true, false, false, false, false] rfl rfl (by kernel_rfl) (fun _ _ _ h => h) (Or.inl ⟨by rfl, ?_⟩) ?_ ?_
        rotate_left
        · intro w'
          go_simp
          with_reducible rfl
        rotate_left
        · simp only [Act.put, List.setIfInBounds_toArray, List.set_cons_zero, List.set_cons_succ, i64_w, i32_w]
          rfl
        refine one_ (i := 9) (N := some 35) #[true, true, true, true, true, true, true, true, true, true, false, false, false] rfl rfl (by kernel_rfl) (by decide) (fun K hK => ?_)
        refine goes_ Try.func36 (by kernel_rfl) rfl #[.agg #[.int .i64 a, .slice A0 l.length c0], .int .i64 (s : Int)] (by rfl) rfl rfl (by (try simp only [List.map_toArray, List.map_cons, List.map_nil]); first | done | rfl | (simp only [List.length_drop, List.length_take]; rfl)) ?_
        with_reducible refine (spec_gaLeft.calls k a A0 c0 l (s : Int) lf _ (Kd.C_below HR.out HB2.out) HC.out HLF.out).mono ?_
        rintro e w6 ⟨v, rfl, ho, hb⟩
        refine ⟨_, rfl, ?_⟩
        have HG3 := Aside0.mk (HG2.out.below hb)
        have BK3 := Aside0.mk (blk_below BK2.out hb)
        have HB3 := Aside0.mk (below_step HB2.out hb)
        have HO := Aside0.mk ho
        clear HG2 BK2 HB2 ho hb
        obtain ⟨Al, cl, el⟩ := Kd.R_slice HO.out
        subst el
        refine hK.out _ _ ⟨(blk_cell HG3.out.1 2).trans rfl, (blk_cell BK3.out 0).trans rfl, (blk_cell BK3.out 1).trans rfl⟩ (fun hHeld => ?_)
        clear hK K
        refine norm_ (a' := ?_) ?_ ?_
        rotate_left
        · show Act.put _ (some 35) _ = _
          simp only [Act.put, List.setIfInBounds_toArray, List.set_cons_zero, List.set_cons_succ, i64_w, i32_w]
          rfl
        refine one_ (i := 10) (N := some 36) #[true, true, true, true, true, true, true, true, true, true, true, false, false] rfl rfl (by kernel_rfl) (by decide) (fun K hK => ?_)
        refine goes_ Try.func35 (by kernel_rfl) rfl #[.int .i64 a, .slice Al lf.length cl] (by rfl) rfl rfl (by (try simp only [List.map_toArray, List.map_cons, List.map_nil]); first | done | rfl | (simp only [List.length_drop, List.length_take]; rfl)) ?_
        with_reducible refine (spec_gaHome.calls k a _ _ lf b _ (Kd.R_reads' HO.out).2.2 (Kd.R_reads' HO.out).2.1 HHM.out).mono ?_
        rintro e w7 ⟨rfl, hb⟩
        refine ⟨_, rfl, ?_⟩
        have HG4 := Aside0.mk (HG3.out.below hb)
        have BK4 := Aside0.mk (blk_below BK3.out hb)
        have HB4 := Aside0.mk (below_step HB3.out hb)
        clear HG3 BK3 HB3 hb HO
        refine hK.out _ _ ⟨(blk_cell HG4.out.1 2).trans rfl, (blk_cell BK4.out 0).trans rfl, (blk_cell BK4.out 1).trans rfl⟩ (fun hHeld => ?_)
        clear hK K
        refine norm_ (a' := ?_) ?_ ?_
        rotate_left
        · show Act.put _ (some 36) _ = _
          simp only [Act.put, List.setIfInBounds_toArray, List.set_cons_zero, List.set_cons_succ, i64_w, i32_w]
          rfl
        have p1 : 0 ≤ ((s : Nat) : Int) := by omega
        have q1 : ((s : Nat) : Int) < (N : Int) := by have := HSN.out; omega
        replace p1 := eq_true p1
        replace q1 := eq_true q1
        refine pure_ (i := 11) (N := some 37) (v := ?_) (a' := ?_) #[true, true, true, true, true, true, true, true, true, true, true, true, false] rfl rfl (by kernel_rfl) (fun _ _ _ h => h) (Or.inl ⟨by rfl, ?_⟩) ?_ ?_
        rotate_left
        · intro w'
          go_simp
          with_reducible rfl
        rotate_left
        · simp only [Act.put, List.setIfInBounds_toArray, List.set_cons_zero, List.set_cons_succ, i64_w, i32_w]
          rfl
        have hah := HG4.out.atH s HSN.out
        have hfh := blk_frozen HG4.out.2.1 s
        refine one_ (i := 12) (N := none) #[true, true, true, true, true, true, true, true, true, true, true, true, true] rfl rfl (by kernel_rfl) (by decide) (fun K hK => ?_)
        refine skip_stepG (by rfl) rfl (w1 := w7.setCell ⟨gh, s, none⟩ (.bool b)) (by go_simp) ?_
        have HG5 := Aside0.mk (HG4.out.putH s b)
        have BK5 := Aside0.mk (blk_far BK4.out (p := ⟨gh, s, none⟩) (blk_ne BK4.out HG4.out.2.1 (by decide)) (.bool b))
        have HB5 := Aside0.mk (below_set (j := s) (v := .bool b) HB4.out ZH.out)
        clear HG4 BK4 HB4 hah hfh
        refine hK.out _ _ ⟨(blk_cell HG5.out.1 2).trans rfl, (blk_cell BK5.out 0).trans rfl, (blk_cell BK5.out 1).trans rfl⟩ (fun hHeld => ?_)
        clear hK K
        refine done_ (by kernel_rfl) ?_
        generalize w7.setCell ⟨gh, s, none⟩ (.bool b) = w8 at HG5 BK5 HB5 ⊢
        clear hHeld
        have hg2 : w8.cell? ⟨g, 2, none⟩ = some (.slice (some ⟨gh, 0, none⟩) N N) := (blk_cell HG5.out.1 2).trans rfl
        have hbit : w8.cell? ⟨gh, s, none⟩ = some (.bool b) := by
          have h1 := HG5.out.atH s HSN.out
          have h2 := HG5.out.2.2.2.1
          rw [List.length_set] at h2
          rw [List.getD_eq_getElem?_getD, List.getElem?_set_self (by have := HSN.out; omega)] at h1
          exact h1
        cases hb0 : b with
        | true =>
          subst hb0
          rw [if_pos rfl] at hm
          have HM := Aside0.mk hm
          clear hm
          go_wp2
          go_roundg d
          case measure => have := HGG.out; omega
          case rel => exact ⟨d, s + 1, _, _, Nat.le_refl _, by have := HSD.out; omega, by rw [← HWI.out], HM, HG5, BK5, HB5⟩
        | false =>
          subst hb0
          rw [if_neg (by simp)] at hm
          obtain ⟨Q0, hQ0⟩ : ∃ q, q = nwIn (hs1.set s false) ls1 s l.length 0 (0, 0) := ⟨_, rfl⟩
          rw [← hQ0] at hm
          have HM := Aside0.mk hm
          have HQ0 := Aside0.mk hQ0
          obtain ⟨hs2, hhs2⟩ : ∃ x, x = hs1.set s false := ⟨_, rfl⟩
          rw [← hhs2] at HM HQ0 HG5
          clear hm hQ0 hhs2
          have hl1 : w8.cell? ⟨gb, 1, none⟩ = some (.slice A0 l.length c0) := (blk_cell BK5.out 1).trans rfl
          go_wp2
          clear hg2 hbit hl1
          go_loopg [6, 7, 48] l.length (fun gg v6 v7 v48 wi => ∃ (d2 i : Nat) (qw ql : Int), d2 ≤ gg ∧ i + d2 = l.length ∧ v48 = .int .i64 (i : Int) ∧ v6 = .int .i64 qw ∧ v7 = .int .i64 ql ∧ Aside0 (nwIn hs2 ls1 s d2 i (qw, ql) = Q0) ∧ Aside0 (GaB A0 c0 a l g gh gl N hs2 ls1 wi) ∧ Aside0 (wi.heap[gb]? = some (.cells #[.int .i64 a, .slice A0 l.length c0] 28 (0, 0))) ∧ Aside0 (Below w.heap.size w wi))
          case atStart => exact ⟨l.length, 0, 0, 0, Nat.le_refl _, Nat.zero_add _, rfl, rfl, rfl, ⟨HQ0.out.symm⟩, HG5, BK5, HB5⟩
          case round =>
            clear HG5 BK5 HB5 HQ0
            obtain ⟨d2, i, qw, ql, hgg, hid, rfl, rfl, rfl, HQ, HG, BK, HB⟩ := hrel
            have hg2 : wr.cell? ⟨g, 2, none⟩ = some (.slice (some ⟨gh, 0, none⟩) N N) := (blk_cell HG.out.1 2).trans rfl
            have hg3 : wr.cell? ⟨g, 3, none⟩ = some (.slice (some ⟨gl, 0, none⟩) N N) := (blk_cell HG.out.1 3).trans rfl
            cases d2 with
            | zero =>
              have d2_ : decide (i < l.length) = false := decide_eq_false (by omega)
              have hq := HQ.out
              rw [nwIn] at hq
              have HQE := Aside0.mk hq
              clear hgg hid hq HQ
              have HWI2 := HWI
              by_cases hqz : qw = 0
              · subst hqz
                have hal := HG.out.atL s HSN.out
                have hfl := blk_frozen HG.out.2.2.1 s
                have hg3' : (wr.setCell ⟨gl, s, none⟩ (.int .i64 0)).cell? ⟨g, 3, none⟩ = some (.slice (some ⟨gl, 0, none⟩) N N) := (blk_cell (HG.out.putL s 0).1 3).trans rfl
                have hal' := (HG.out.putL s 0).atL s HSN.out
                have hfl' := blk_frozen (HG.out.putL s 0).2.2.1 s
                go_wp2
                go_roundg d
                case measure => have := HGG.out; omega
                case rel => exact ⟨d, s + 1, _, _, Nat.le_refl _, by have := HSD.out; omega, by rw [← HWI.out], HM, ⟨by
                    have h1 := ((HG.out.putL s 0).putL s (wrap64 (-ql)))
                    rw [List.set_set] at h1
                    rw [← HQE.out]
                    exact h1⟩, ⟨blk_far (blk_far BK.out (p := ⟨gl, s, none⟩) (blk_ne BK.out HG.out.2.2.1 (by decide)) _) (p := ⟨gl, s, none⟩) (blk_ne BK.out HG.out.2.2.1 (by decide)) _⟩, ⟨below_set (below_set HB.out ZL.out) ZL.out⟩⟩
              · have t1 : (qw == 0) = false := by simp [hqz]
                have hal := HG.out.atL s HSN.out
                have hfl := blk_frozen HG.out.2.2.1 s
                have HQZ := Aside0.mk hqz
                clear hqz
                go_wp2
                go_roundg d
                case measure => have := HGG.out; omega
                case rel => exact ⟨d, s + 1, _, _, Nat.le_refl _, by have := HSD.out; omega, by rw [← HWI.out], HM, ⟨by
                    have h1 := HG.out.putL s qw
                    rw [← HQE.out]
                    unfold nwEnd
                    rw [if_neg HQZ.out]
                    exact h1⟩, ⟨blk_far BK.out (p := ⟨gl, s, none⟩) (blk_ne BK.out HG.out.2.2.1 (by decide)) _⟩, ⟨below_set HB.out ZL.out⟩⟩
            | succ d2 =>
              have d2_ : decide (i < l.length) = true := decide_eq_true (by omega)
              have hq := HQ.out
              rw [nwIn] at hq
              have HQE := Aside0.mk hq
              have hil : i < l.length := by omega
              have HI12 := Lib.hid (show i < 12 by have := HN12.out; omega)
              have HGD := Lib.hid hgg
              have HID := Lib.hid hid
              clear hgg hid hq HQ hil
              have e23 : ((s : Int) / 2 ^ min i 64) = ((s / 2 ^ i : Nat) : Int) := by rw [Nat.min_eq_left (by have := HI12.out; omega)]; push_cast; rfl
              obtain ⟨x2, hx2⟩ : ∃ x2, x2 = s / 2 ^ i := ⟨_, rfl⟩
              rw [← hx2] at e23
              have HX2 := Lib.hid hx2
              clear hx2
              have HWJ := Lib.hid (show wrap64 ((i : Int) + 1) = ((i + 1 : Nat) : Int) by have := HI12.out; clear e23; unfold wrap64; omega)
              by_cases hbz : x2 % 2 = 0
              · have t1 : ((x2 : Int) % 2 == 0) = true := by
                  have : (x2 : Int) % 2 = 0 := by omega
                  simp [this]
                have hst : nwStep hs2 ls1 s i (qw, ql) = (qw, ql) := by unfold nwStep; rw [if_pos (by rw [← HX2.out]; exact hbz)]
                have HQ2 := Aside0.mk (show nwIn hs2 ls1 s d2 (i + 1) (qw, ql) = Q0 by rw [← hst]; exact HQE.out)
                clear hbz hst HQE
                go_wp2
                go_roundg d2
                case measure => have := HGD.out; omega
                case rel => exact ⟨d2, i + 1, qw, ql, Nat.le_refl _, by have := HID.out; omega, by rw [← HWJ.out], rfl, rfl, ⟨HQ2.out⟩, HG, BK, HB⟩
              · have t1 : ((x2 : Int) % 2 == 0) = false := by
                  have : (x2 : Int) % 2 = 1 := by omega
                  simp [this]
                have hbz2 : ¬ s / 2 ^ i % 2 = 0 := by rw [← HX2.out]; exact hbz
                have ec := clrI_eq s i (Nat.lt_of_lt_of_le HSN.out HN2.out) HI12.out hbz2
                rw [← show min i 64 = i from Nat.min_eq_left (by have := HI12.out; clear ec e23; omega)] at ec
                rw [show s - 2 ^ min i 64 = s - 2 ^ i by rw [Nat.min_eq_left (by have := HI12.out; clear ec e23; omega)]] at ec
                obtain ⟨t, ht⟩ : ∃ t, t = s - 2 ^ i := ⟨_, rfl⟩
                rw [← ht] at ec
                have htN : t < N := by rw [ht]; exact Nat.lt_of_le_of_lt (Nat.sub_le _ _) HSN.out
                have hch := HG.out.atH t htN
                have hcl := HG.out.atL t htN
                have p2 : 0 ≤ ((t : Nat) : Int) := by clear ec e23; omega
                have q2 : ((t : Nat) : Int) < (N : Int) := by clear ec e23; omega
                replace p2 := eq_true p2
                replace q2 := eq_true q2
                obtain ⟨hv, hhv⟩ : ∃ hv, hv = hs2.getD t false := ⟨_, rfl⟩
                obtain ⟨lv, hlv⟩ : ∃ lv, lv = ls1.getD t 0 := ⟨_, rfl⟩
                rw [← hhv] at hch
                rw [← hlv] at hcl
                have hst0 : nwStep hs2 ls1 s i (qw, ql) = if hv = true then (1, ql) else if lv < 0 ∧ (qw = 0 ∨ wrap64 (1 - lv) < qw) then (wrap64 (1 - lv), ql) else if 0 < lv then (qw, if ql > wrap64 (1 + lv) then ql else wrap64 (1 + lv)) else (qw, ql) := by
                  unfold nwStep; rw [if_neg hbz2, ← ht, ← hhv, ← hlv]
                have HST := Aside0.mk hst0
                clear hbz hbz2 hst0 hhv hlv ht htN
                cases hv0 : hv with
                | true =>
                  subst hv0
                  have hst := HST.out
                  rw [if_pos rfl] at hst
                  have HQ2 := Aside0.mk (show nwIn hs2 ls1 s d2 (i + 1) (1, ql) = Q0 by rw [← hst]; exact HQE.out)
                  clear hst HQE HST
                  go_wp2
                  go_roundg d2
                  case measure => have := HGD.out; omega
                  case rel => exact ⟨d2, i + 1, 1, ql, Nat.le_refl _, by have := HID.out; omega, by rw [← HWJ.out], rfl, rfl, ⟨HQ2.out⟩, HG, BK, HB⟩
                | false =>
                  subst hv0
                  have hst := HST.out
                  rw [if_neg (by simp)] at hst
                  clear HST
                  by_cases hneg : lv < 0
                  · have u1 : decide (lv < 0) = true := decide_eq_true hneg
                    have u3 : decide (0 < lv) = false := decide_eq_false (by omega)
                    by_cases hz : qw = 0
                    · have u2 : (qw == 0) = true := by simp [hz]
                      rw [if_pos ⟨hneg, Or.inl hz⟩] at hst
                      have HQ2 := Aside0.mk (show nwIn hs2 ls1 s d2 (i + 1) (wrap64 (1 - lv), ql) = Q0 by rw [← hst]; exact HQE.out)
                      clear hst HQE hneg hz
                      go_wp2
                      go_roundg d2
                      case measure => have := HGD.out; omega
                      case rel => exact ⟨d2, i + 1, wrap64 (1 - lv), ql, Nat.le_refl _, by have := HID.out; omega, by rw [← HWJ.out], rfl, rfl, ⟨HQ2.out⟩, HG, BK, HB⟩
                    · have u2 : (qw == 0) = false := by simp [hz]
                      by_cases hlt : wrap64 (1 - lv) < qw
                      · have u4 : decide (wrap64 (1 - lv) < qw) = true := decide_eq_true hlt
                        rw [if_pos ⟨hneg, Or.inr hlt⟩] at hst
                        have HQ2 := Aside0.mk (show nwIn hs2 ls1 s d2 (i + 1) (wrap64 (1 - lv), ql) = Q0 by rw [← hst]; exact HQE.out)
                        clear hst HQE hneg hz hlt
                        go_wp2
                        go_roundg d2
                        case measure => have := HGD.out; omega
                        case rel => exact ⟨d2, i + 1, wrap64 (1 - lv), ql, Nat.le_refl _, by have := HID.out; omega, by rw [← HWJ.out], rfl, rfl, ⟨HQ2.out⟩, HG, BK, HB⟩
                      · have u4 : decide (wrap64 (1 - lv) < qw) = false := decide_eq_false hlt
                        rw [if_neg (fun h => h.2.elim hz hlt), if_neg (by omega)] at hst
                        have HQ2 := Aside0.mk (show nwIn hs2 ls1 s d2 (i + 1) (qw, ql) = Q0 by rw [← hst]; exact HQE.out)
                        clear hst HQE hneg hz hlt
                        go_wp2
                        go_roundg d2
                        case measure => have := HGD.out; omega
                        case rel => exact ⟨d2, i + 1, qw, ql, Nat.le_refl _, by have := HID.out; omega, by rw [← HWJ.out], rfl, rfl, ⟨HQ2.out⟩, HG, BK, HB⟩
                  · have u1 : decide (lv < 0) = false := decide_eq_false hneg
                    rw [if_neg (fun h => hneg h.1)] at hst
                    by_cases hpos : 0 < lv
                    · have u3 : decide (0 < lv) = true := decide_eq_true hpos
                      rw [if_pos hpos] at hst
                      obtain ⟨mm, hmm⟩ : ∃ mm, mm = if ql > wrap64 (1 + lv) then ql else wrap64 (1 + lv) := ⟨_, rfl⟩
                      rw [← hmm] at hst
                      have HMM := Aside0.mk (show spec_l1Most.f ql (wrap64 (1 + lv)) = some mm by
                        rw [hmm]; unfold spec_l1Most.f; split <;> rfl)
                      have HQ2 := Aside0.mk (show nwIn hs2 ls1 s d2 (i + 1) (qw, mm) = Q0 by rw [← hst]; exact HQE.out)
                      clear hst HQE hneg hpos hmm
                      go_wp2_with (first | ((with_reducible refine (spec_l1Most.calls ql (wrap64 (1 + lv)) mm _ HMM.out).mono ?_); rintro e w9 ⟨rfl, ⟨q9, rfl⟩⟩))
                      go_roundg d2
                      case measure => have := HGD.out; omega
                      case rel => exact ⟨d2, i + 1, qw, mm, Nat.le_refl _, by have := HID.out; omega, by rw [← HWJ.out], rfl, rfl, ⟨HQ2.out⟩, ⟨HG.out.drewN q9⟩, ⟨blk_drewN BK.out q9⟩, ⟨pw_below_drewN HB.out q9⟩⟩
                    · have u3 : decide (0 < lv) = false := decide_eq_false hpos
                      rw [if_neg hpos] at hst
                      have HQ2 := Aside0.mk (show nwIn hs2 ls1 s d2 (i + 1) (qw, ql) = Q0 by rw [← hst]; exact HQE.out)
                      clear hst HQE hneg hpos
                      go_wp2
                      go_roundg d2
                      case measure => have := HGD.out; omega
                      case rel => exact ⟨d2, i + 1, qw, ql, Nat.le_refl _, by have := HID.out; omega, by rw [← HWJ.out], rfl, rfl, ⟨HQ2.out⟩, HG, BK, HB⟩


/-! ### impl_taking_best: function 44 -/
/-- an outcome: whether it wins, with which rung, how many are taken -/
def betterB (o b : Bool × Int × Int) : Bool := (o.1 && (!b.1 || decide (o.2.2 < b.2.2))) || (!o.1 && !b.1 && decide (o.2.2 > b.2.2))
def pickO (b : Option (Bool × Int × Int)) (o : Bool × Int × Int) : Bool × Int × Int := match b with | none => o | some q => if betterB o q = true then o else q
def bestGo (tk : Nat → Option (Bool × Int × Int)) (s : Nat) : Nat → Nat → Option (Bool × Int × Int) → Option (Option (Bool × Int × Int))
  | 0, _, b => some b
  | d + 1, i, b => if s / 2 ^ i % 2 = 0 then bestGo tk s d (i + 1) b else (tk i).bind fun o => bestGo tk s d (i + 1) (some (pickO b o))
def takeX (bst : Nat → Option (Bool × Int × Int)) (k : Nat) (a : Int) (l : List Int) (s i : Nat) : Option (Bool × Int × Int) :=
  (impl_isHomely.f k a (leftR l (s - 2 ^ i))).bind fun b => if b = true then some (true, (i : Int), 1) else (bst (s - 2 ^ i)).bind fun o => some (!o.1, (i : Int), wrap64 (o.2.2 + 1))
def bestF : Nat → Int → List Int → Nat → Option (Bool × Int × Int)
  | 0, _, _, _ => none
  | k + 1, a, l, s => (bestGo (takeX (bestF k a l) k a l s) s l.length 0 none).bind fun o => some (o.getD (false, 0, 0))
theorem bestGo_mono {tk tk' : Nat → Option (Bool × Int × Int)} (h : ∀ i, LeO (tk i) (tk' i)) (s : Nat) : ∀ d i b, LeO (bestGo tk s d i b) (bestGo tk' s d i b)
  | 0, _, _ => LeO.refl _
  | d + 1, i, b => LeO.ite (bestGo_mono h s d (i + 1) b) (LeO.bind (h i) fun _ => bestGo_mono h s d (i + 1) _)
theorem takeX_mono {bst bst' : Nat → Option (Bool × Int × Int)} (h : ∀ s, LeO (bst s) (bst' s)) (k : Nat) (a : Int) (l : List Int) (s i : Nat) : LeO (takeX bst k a l s i) (takeX bst' (k + 1) a l s i) :=
  LeO.bind (impl_isHomely.mono _ _ _) fun _ => LeO.ite (LeO.refl _) (LeO.bind (h _) fun _ => LeO.refl _)
theorem bestF_mono : ∀ (k : Nat) (a : Int) (l : List Int) (s : Nat), LeO (bestF k a l s) (bestF (k + 1) a l s)
  | 0, _, _, _ => LeO.none _
  | k + 1, a, l, s => LeO.bind (bestGo_mono (takeX_mono (bestF_mono k a l) k a l s) s _ _ _) fun _ => LeO.refl _
theorem bestF_le (a : Int) (l : List Int) (s : Nat) (k d : Nat) : LeO (bestF k a l s) (bestF (k + d) a l s) := by
  induction d with
  | zero => exact LeO.refl _
  | succ d ih => exact fun r h => bestF_mono _ _ _ _ r (ih r h)
theorem bestF_det {a : Int} {l : List Int} {s k k' : Nat} {o o' : Bool × Int × Int} (h : bestF k a l s = some o) (h' : bestF k' a l s = some o') : o = o' := by
  have h1 := bestF_le a l s k k' o h
  have h2 := bestF_le a l s k' k o' h'
  rw [Nat.add_comm] at h2
  rw [h1] at h2
  exact Option.some.inj h2
def outV (o : Bool × Int × Int) : Value := .agg #[.bool o.1, .int .i64 o.2.1, .int .i64 o.2.2]
def outD (o : Bool × Int × Int) : DataW Unit := .agg [.lit (.bool o.1), .lit (.int .i64 o.2.1), .lit (.int .i64 o.2.2)]
theorem outR_mk (o : Bool × Int × Int) : outR (outV o) = some (outD o, []) := rfl
theorem outR_inv {v : Value} {o : Bool × Int × Int} {ps : List MemPlace} (h : outR v = some (outD o, ps)) : v = outV o := by
  unfold outR at h
  split at h
  · rename_i cs
    split at h
    · rename_i b x m e
      simp only [outD, Option.some.injEq, Prod.mk.injEq, DataW.agg.injEq, List.cons.injEq, DataW.lit.injEq, Lit.bool.injEq, Lit.int.injEq, true_and, and_true] at h
      obtain ⟨⟨h1, h2, h3⟩, _⟩ := h
      rw [outV, ← h1, ← h2, ← h3, ← e]
    · cases h
  · cases h
/-- a key that is no set of N -/
def badKey (N : Int) (p : Lit × DataW Unit) : Bool := match p.1 with | .int .u64 x => !(decide (0 ≤ x) && decide (x < N)) | _ => true
theorem keys_le : ∀ (N : Nat) (es : List (Lit × DataW Unit)), es.Pairwise (fun p q => p.1 ≠ q.1) → es.any (badKey N) = false → es.length ≤ N := by
  intro N
  induction N with
  | zero =>
    intro es _ h
    cases es with
    | nil => exact Nat.le_refl _
    | cons p es =>
      exfalso
      rw [List.any_cons, Bool.or_eq_false_iff] at h
      have h1 := h.1
      unfold badKey at h1
      split at h1
      · simp at h1; omega
      · cases h1
  | succ N ih =>
    intro es hp h
    have h1 := Maps.length_strike (k := .int .u64 (N : Int)) es hp
    have h2 := ih (es.filter fun p => !p.1.sameKey (.int .u64 (N : Int))) (hp.filter _) (by
      rw [List.any_eq_false] at h ⊢
      intro p hp2
      rw [List.mem_filter] at hp2
      have h3 := h p hp2.1
      have h4 := hp2.2
      intro h5
      apply h3
      unfold badKey at h5 ⊢
      split at h5
      · rename_i x e
        rw [e] at h4
        simp [Lit.sameKey] at h4
        simp at h5 ⊢
        omega
      · rfl)
    split at h1 <;> omega
def KnownD (a : Int) (l : List Int) (D : DataW Unit) : Prop := (∃ es, D = .map es ∧ es.any (badKey 4096) = false) ∧ ∀ s : Nat, Maps.has D (.int .u64 (s : Int)) = true → ∃ o k, (∀ z, D.atKey (.int .u64 (s : Int)) z = outD o) ∧ bestF k a l s = some o
theorem KnownD.nil (a : Int) (l : List Int) : KnownD a l (.map []) := ⟨⟨[], rfl, rfl⟩, fun s h => by cases h⟩
theorem KnownD.put {a : Int} {l : List Int} {D : DataW Unit} (h : KnownD a l D) {s : Nat} (hs : s < 4096) {o : Bool × Int × Int} {k : Nat} (ho : bestF k a l s = some o) : KnownD a l (D.put (.int .u64 (s : Int)) (outD o)) := by
  obtain ⟨⟨es, rfl, hb⟩, hk⟩ := h
  refine ⟨⟨_, rfl, ?_⟩, fun s' h' => ?_⟩
  · rw [Maps.any_insert, Bool.or_eq_false_iff]
    refine ⟨?_, ?_⟩
    · simp [badKey]; omega
    · rw [List.any_eq_false] at hb ⊢
      intro p hp
      rw [List.mem_filter] at hp
      exact hb p hp.1
  · by_cases e : s' = s
    · subst e
      exact ⟨o, k, fun z => Maps.atKey_put_same ⟨es, rfl⟩ (show WideAt.IsKeyLit (.int .u64 (s' : Int)) from trivial) _ _, ho⟩
    · have hne : (Lit.int .u64 (s' : Int)) ≠ .int .u64 (s : Int) := fun e2 => e (by injection e2 with _ e2; omega)
      rw [Maps.has_put_other hne] at h'
      obtain ⟨o', k', h1, h2⟩ := hk s' h'
      exact ⟨o', k', fun z => by rw [Maps.atKey_put_other hne]; exact h1 z, h2⟩
theorem KnownD.size {a : Int} {l : List Int} {D : DataW Unit} (h : KnownD a l D) (ht : Maps.Tidy D) : Maps.size D ≤ 4096 := by
  obtain ⟨⟨es, rfl, hb⟩, _⟩ := h
  obtain ⟨es', e, hp⟩ := ht
  injection e with e
  subst e
  exact keys_le 4096 es hp hb
/-- a game in a later world: its blocks, and what is known -/
def Gm (w0 : World) (A0 : Option Addr) (c0 : Nat) (a : Int) (l : List Int) (g bm : Nat) (w : World) : Prop := Game A0 c0 a l g bm w ∧ (∃ D, w.ownsMap Try.prog 49 outR bm (Maps.size D) D ∧ KnownD a l D) ∧ Below w0.heap.size w0 w
def Setup (w0 : World) (A0 : Option Addr) (c0 : Nat) (a : Int) (l : List Int) (g bm : Nat) : Prop := Kd.C (Kd.int .i64) w0 A0 l.length l ∧ l.length ≤ c0 ∧ l.length ≤ 12 ∧ w0.heap.size ≤ g ∧ w0.heap.size ≤ bm ∧ g ≠ bm
section
variable {w0 w w1 : World} {A0 : Option Addr} {c0 : Nat} {a : Int} {l : List Int} {g bm : Nat}
theorem Gm.grown (h : Gm w0 A0 c0 a l g bm w) (hg : w.grownBy w1 none) : Gm w0 A0 c0 a l g bm w1 := by
  obtain ⟨h1, ⟨D, h2, h3⟩, h4⟩ := h
  exact ⟨blk_grown h1 hg (by simp), ⟨D, h2.kept hg (by simp), h3⟩, pw_below_grown h4 none h4.size hg (by simp)⟩
theorem Gm.below (h : Gm w0 A0 c0 a l g bm w) (hb : Below w.heap.size w w1) : Gm w0 A0 c0 a l g bm w1 := h.grown (grown_of_below hb none)
theorem Gm.drew (h : Gm w0 A0 c0 a l g bm w) : Gm w0 A0 c0 a l g bm w.drew := h.below (below_drew1 (Below.refl _ _))
theorem Gm.drewN (h : Gm w0 A0 c0 a l g bm w) (n : Nat) : Gm w0 A0 c0 a l g bm (w.drewN n) := h.below (pw_below_drewN (Below.refl _ _) n)
theorem Gm.alloc (h : Gm w0 A0 c0 a l g bm w) (o : Obj) : Gm w0 A0 c0 a l g bm (w.alloc o) := h.below (below_alloc (Below.refl _ _) o)
theorem Gm.far (h : Gm w0 A0 c0 a l g bm w) {p : Nat} (hg : w.grownBy w1 (some p)) (hp1 : g ≠ p) (hp2 : bm ≠ p) (hp3 : w0.heap.size ≤ p) : Gm w0 A0 c0 a l g bm w1 := by
  obtain ⟨h1, ⟨D, h2, h3⟩, h4⟩ := h
  exact ⟨blk_grown h1 hg (by simpa using hp1), ⟨D, h2.kept hg (by simpa using hp2), h3⟩, pw_below_grown h4 (some p) h4.size hg (by intro k e; injection e with e; omega)⟩
theorem Gm.g_lt (h : Gm w0 A0 c0 a l g bm w) : g < w.heap.size := blk_lt h.1
theorem Gm.bm_lt (h : Gm w0 A0 c0 a l g bm w) : bm < w.heap.size := by obtain ⟨_, ⟨D, h2, _⟩, _⟩ := h; exact h2.lt
theorem Setup.C (h : Setup w0 A0 c0 a l g bm) (hg : Gm w0 A0 c0 a l g bm w) : Kd.C (Kd.int .i64) w A0 l.length l := Kd.C_below h.1 hg.2.2
theorem Gm.game (h : Gm w0 A0 c0 a l g bm w) : Game A0 c0 a l g bm w := h.1
theorem Setup.cap (h : Setup w0 A0 c0 a l g bm) : l.length ≤ c0 := h.2.1
theorem Setup.len (h : Setup w0 A0 c0 a l g bm) : l.length ≤ 20 := Nat.le_trans h.2.2.1 (by decide)
theorem gb_far {p : Nat} {o : Obj} (h : w.heap[p]? = some o) (hg : w.grownBy w1 (some bm)) (hne : p ≠ bm) : w1.heap[p]? = some o := blk_grown h hg (by simpa using hne)
/-- what is kept but for the map -/
theorem gb_below {row : Option Nat} {w2 : World} (h : w.grownBy w1 row) (hb : Below w1.heap.size w1 w2) : w.grownBy w2 row := World.grownBy.trans h (grown_of_below hb row)
theorem gb_own {row : Option Nat} {w2 : World} {p : Nat} (h : w.grownBy w1 row) (hb : w1.grownBy w2 (some p)) (hp : w.heap.size ≤ p) : w.grownBy w2 row := World.grownBy.andThen h hb (fun j e => by injection e with e; left; omega)
end
theorem grownBy_set1 (W : World) (b j : Nat) (v : Value) : W.grownBy (W.setCell ⟨b, j, none⟩ v) (some b) := by
  exact ⟨rfl, rfl, rfl, ((Below.refl 0 W).setCell (Nat.zero_le b) v : Below 0 W (W.setCell ⟨b, j, none⟩ v)).size, fun i _ hne => Below.heap_setCell W ⟨b, j, none⟩ v i (fun e => hne (by rw [e]))⟩
section
variable {P : Program} {ops : Array Oper} {rest : List Oper} {o : Oper} {a : Act} {Q : Exit → Act → World → Prop}
/-- an outcome is stored in a block of its own -/
theorem out_store {W : World} (hgd : o.guard = none) (p : Tmp) (_hd : ∃ T v, o.op = .store T (.tmp p) v) {gp : Nat} {x : Bool} {y z : Int} {c0 c1 c2 : Value} {t : TypeId} (hb : W.heap[gp]? = some (.cells #[c0, c1, c2] t (0, 0)))
    (hrun : W.cell? ⟨gp, 0, none⟩ = some c0 → W.cell? ⟨gp, 1, none⟩ = some c1 → W.cell? ⟨gp, 2, none⟩ = some c2 → W.frozen? ⟨gp, 0, none⟩ = false → W.frozen? ⟨gp, 1, none⟩ = false → W.frozen? ⟨gp, 2, none⟩ = false →
      (execOp a.eval o).run P W = .ok .skip (((W.setCell ⟨gp, 0, none⟩ (.bool x)).setCell ⟨gp, 1, none⟩ (.int .i64 y)).setCell ⟨gp, 2, none⟩ (.int .i64 z)))
    (h : ∀ w1, w1.heap[gp]? = some (.cells #[.bool x, .int .i64 y, .int .i64 z] t (0, 0)) → W.grownBy w1 (some gp) → wpList P ops Q rest (a.put o.dst undef) w1) : wpList P ops Q (o :: rest) a W := by
  refine wpList_plain hgd fun K' hK' => ?_
  unfold Oper.wp
  rw [hrun ((blk_cell hb 0).trans rfl) ((blk_cell hb 1).trans rfl) ((blk_cell hb 2).trans rfl) (blk_frozen hb 0) (blk_frozen hb 1) (blk_frozen hb 2)]
  refine hK' _ _ (h _ (blk_put (blk_put (blk_put hb 0 (.bool x) rfl) 1 (.int .i64 y) rfl) 2 (.int .i64 z) rfl) ?_)
  exact World.grownBy.trans (World.grownBy.trans (grownBy_set1 _ gp 0 _) (grownBy_set1 _ gp 1 _)) (grownBy_set1 _ gp 2 _)
end
def BestAt (w0 : World) (A0 : Option Addr) (c0 : Nat) (a : Int) (l : List Int) (g bm : Nat) (k : Nat) : Prop := ∀ (s : Nat) (o : Bool × Int × Int) (w : World), s < 4096 → bestF k a l s = some o → Gm w0 A0 c0 a l g bm w →
    Calls Try.prog 44 #[.pointer (some ⟨g, 0, none⟩), .int .u64 (s : Int)] w fun e w' => e = .returned (outV o) ∧ Gm w0 A0 c0 a l g bm w' ∧ w.grownBy w' (some bm)
theorem BestAt.calls {w0 w : World} {A0 : Option Addr} {c0 : Nat} {a : Int} {l : List Int} {g bm k : Nat} (h : BestAt w0 A0 c0 a l g bm k) (s : Nat) (hs : s < 4096) (x : Bool) (y z : Int) (ho : bestF k a l s = some (x, y, z)) (hg : Gm w0 A0 c0 a l g bm w) :
    Calls Try.prog 44 #[.pointer (some ⟨g, 0, none⟩), .int .u64 (s : Int)] w fun e w' => e = .returned (.agg #[.bool x, .int .i64 y, .int .i64 z]) ∧ Gm w0 A0 c0 a l g bm w' ∧ w.grownBy w' (some bm) := h s (x, y, z) w hs ho hg
set_option maxHeartbeats 4000000 in
set_option maxRecDepth 100000 in
theorem take_calls {w0 : World} {A0 : Option Addr} {c0 : Nat} {a : Int} {l : List Int} {g bm : Nat} (hsu : Setup w0 A0 c0 a l g bm) (k : Nat) (hbest : BestAt w0 A0 c0 a l g bm k) (s t : Nat) (hs : s < 4096) (ht : t < 12) (hbit : ¬ s / 2 ^ t % 2 = 0) (k2 : Nat) (o : Bool × Int × Int) (ho : takeX (bestF k a l) k2 a l s t = some o) (w : World) (hg : Gm w0 A0 c0 a l g bm w) :
    Calls Try.prog 48 #[.pointer (some ⟨g, 0, none⟩), .int .u64 (s : Int), .int .i64 (t : Int)] w fun e w' => e = .returned (outV o) ∧ Gm w0 A0 c0 a l g bm w' ∧ w.grownBy w' (some bm) := by
  have hu60 := Try.underlying60
  have HG := Aside0.mk hg
  have HSU := Aside0.mk hsu
  have HBEST := Aside0.mk hbest
  have HGR := Aside0.mk (World.grownBy.refl w (some bm))
  have hbml := hg.bm_lt
  have hgl := hg.g_lt
  have hw0 := hg.2.2.size
  have ec := clrE_eq s t hs ht hbit
  rw [← show min t 64 = t from Nat.min_eq_left (by clear ec; omega)] at ec
  rw [show s - 2 ^ min t 64 = s - 2 ^ t by rw [Nat.min_eq_left (by clear ec; omega)]] at ec
  obtain ⟨s2, hs2⟩ : ∃ s2, s2 = s - 2 ^ t := ⟨_, rfl⟩
  have hs4 : s2 < 4096 := by rw [hs2]; exact Nat.lt_of_le_of_lt (Nat.sub_le _ _) hs
  unfold takeX at ho
  rw [← hs2] at ec ho
  replace ho := Option.bind_eq_some_iff.mp ho
  obtain ⟨b, hb, ho⟩ := ho
  have HH := Aside0.mk hb
  have HBM := Lib.hid hbml
  have HGL := Lib.hid hgl
  have HW0 := Lib.hid hw0
  have HS4 := Lib.hid hs4
  clear hs ht hbit hg hsu hbest hb hs2 hbml hgl hw0 hs4
  cases b with
  | true =>
    rw [if_pos rfl] at ho
    injection ho with ho
    subst ho
    go_enter Try.func48, Try.ntmps48
    go_wp2_with (first | ((with_reducible refine gate_dst (N := 6) rfl ?_); refine box_event ?hg (N := 6) ?hd (cs := #[.bool false, .int .i64 0, .int .i64 0]) (t := 60) ?hr ?_; (case hd => rfl); (case hg => rfl); (case hr => first | (go_simp; done) | (go_simp; rfl)); intro g6 hg w1 hbox hb; have G6 := Aside0.mk ((by rw [hg]; exact HGR.out.size) : w.heap.size ≤ g6); have N6 := Aside0.mk ((by first | exact trivial | (rw [hg]; exact trivial)) : True); have n0_ := Aside0.mk (HG.out.below hb); have n1_ := Aside0.mk (gb_below HGR.out hb); clear HG HGR ; have HG := n0_; have HGR := n1_; clear n0_ n1_ ; have BK6 := Aside0.mk hbox; clear hbox hb hg) | ((with_reducible refine (isOver_calls k2 a A0 c0 l HSU.out.len s2 (by have := HS4.out; omega) true g bm _ HG.out.game (HSU.out.C HG.out) HSU.out.cap HH.out).mono ?_); rintro e w2 ⟨rfl, hb⟩; have n0_ := Aside0.mk (HG.out.below hb); have n1_ := Aside0.mk (gb_below HGR.out hb); have n2_ := Aside0.mk (blk_below BK6.out hb); clear HG HGR BK6 hb; have HG := n0_; have HGR := n1_; have BK6 := n2_; clear n0_ n1_ n2_) | ((with_reducible refine out_store (gp := g6) (x := true) (y := (t : Int)) (z := 1) ?hgd 6 ?hd (c0 := .bool false) (c1 := .int .i64 0) (c2 := .int .i64 0) (t := 60) ?hb (fun hc0 hc1 hc2 hf0 hf1 hf2 => ?hr) ?_); (case hd => exact ⟨_, _, rfl⟩); (case hgd => rfl); (case hb => exact (by (with_reducible repeat (first | refine blk_drewN ?_ _ | refine blk_drew ?_ | refine blk_alloc ?_ _)); exact BK6.out)); (case hr => first | (go_simp; done) | (go_simp; rfl)); intro w5 hbox hgr; have n0_ := Aside0.mk (HG.out.far hgr (Nat.ne_of_lt (Nat.lt_of_lt_of_le HGL.out G6.out)) (Nat.ne_of_lt (Nat.lt_of_lt_of_le HBM.out G6.out)) (Nat.le_trans HW0.out G6.out)); have n1_ := Aside0.mk (gb_own HGR.out hgr G6.out); clear HG HGR BK6 ; have HG := n0_; have HGR := n1_; have BK6 := Aside0.mk hbox; clear n0_ n1_ hbox hgr ))
    refine bodyPost_ret (results_single rfl (.cell g6 60 #[.bool true, .int .i64 (t : Int), .int .i64 1] (0, 0) _ rfl (by (with_reducible repeat (first | refine blk_drewN ?_ _ | refine blk_drew ?_ | refine blk_alloc ?_ _)); exact BK6.out) Try.underlying60 rfl (by kernel_rfl) .nil)) rfl ?_
    exact ⟨rfl, HG.out, HGR.out⟩
  | false =>
    rw [if_neg (by simp)] at ho
    replace ho := Option.bind_eq_some_iff.mp ho
    obtain ⟨⟨x1, y1, z1⟩, hb, ho⟩ := ho
    injection ho with ho
    subst ho
    have HO := Aside0.mk hb
    clear hb
    go_enter Try.func48, Try.ntmps48
    go_wp2_with (first | ((with_reducible refine gate_dst (N := 6) rfl ?_); refine box_event ?hg (N := 6) ?hd (cs := #[.bool false, .int .i64 0, .int .i64 0]) (t := 60) ?hr ?_; (case hd => rfl); (case hg => rfl); (case hr => first | (go_simp; done) | (go_simp; rfl)); intro g6 hg w1 hbox hb; have G6 := Aside0.mk ((by rw [hg]; exact HGR.out.size) : w.heap.size ≤ g6); have N6 := Aside0.mk ((by first | exact trivial | (rw [hg]; exact trivial)) : True); have n0_ := Aside0.mk (HG.out.below hb); have n1_ := Aside0.mk (gb_below HGR.out hb); clear HG HGR ; have HG := n0_; have HGR := n1_; clear n0_ n1_ ; have BK6 := Aside0.mk hbox; clear hbox hb hg) | ((with_reducible refine gate_dst (N := 8) rfl ?_); refine box_event ?hg (N := 8) ?hd (cs := #[.bool false, .int .i64 0, .int .i64 0]) (t := 60) ?hr ?_; (case hd => rfl); (case hg => rfl); (case hr => first | (go_simp; done) | (go_simp; rfl)); intro g8 hg w1 hbox hb; have G8 := Aside0.mk ((by rw [hg]; exact HGR.out.size) : w.heap.size ≤ g8); have N8 := Aside0.mk ((by first | exact trivial | (rw [hg]; exact Nat.ne_of_lt (blk_lt BK6.out))) : g6 ≠ g8); have n0_ := Aside0.mk (HG.out.below hb); have n1_ := Aside0.mk (gb_below HGR.out hb); have mBK6_ := Aside0.mk (blk_below BK6.out hb); clear HG HGR BK6; have HG := n0_; have HGR := n1_; have BK6 := mBK6_; clear n0_ n1_ mBK6_; have BK8 := Aside0.mk hbox; clear hbox hb hg) | ((with_reducible refine (isOver_calls k2 a A0 c0 l HSU.out.len s2 (by have := HS4.out; omega) false g bm _ HG.out.game (HSU.out.C HG.out) HSU.out.cap HH.out).mono ?_); rintro e w2 ⟨rfl, hb⟩; have n0_ := Aside0.mk (HG.out.below hb); have n1_ := Aside0.mk (gb_below HGR.out hb); have n2_ := Aside0.mk (blk_below BK6.out hb); clear HG HGR BK6 hb; have HG := n0_; have HGR := n1_; have BK6 := n2_; clear n0_ n1_ n2_) | ((with_reducible refine (HBEST.out.calls s2 HS4.out x1 y1 z1 HO.out HG.out).mono ?_); rintro e w3 ⟨rfl, hg, hgr⟩; have n0_ := Aside0.mk hg; have n1_ := Aside0.mk (World.grownBy.trans HGR.out hgr); have n2_ := Aside0.mk (gb_far BK6.out hgr (Nat.ne_of_gt (Nat.lt_of_lt_of_le HBM.out G6.out))); clear HG HGR BK6 hg hgr; have HG := n0_; have HGR := n1_; have BK6 := n2_; clear n0_ n1_ n2_) | ((with_reducible refine out_store (gp := g8) (x := x1) (y := y1) (z := z1) ?hgd 8 ?hd (c0 := .bool false) (c1 := .int .i64 0) (c2 := .int .i64 0) (t := 60) ?hb (fun hc0 hc1 hc2 hf0 hf1 hf2 => ?hr) ?_); (case hd => exact ⟨_, _, rfl⟩); (case hgd => rfl); (case hb => exact (by (with_reducible repeat (first | refine blk_drewN ?_ _ | refine blk_drew ?_ | refine blk_alloc ?_ _)); exact BK8.out)); (case hr => first | (go_simp; done) | (go_simp; rfl)); intro w5 hbox hgr; have n0_ := Aside0.mk (HG.out.far hgr (Nat.ne_of_lt (Nat.lt_of_lt_of_le HGL.out G8.out)) (Nat.ne_of_lt (Nat.lt_of_lt_of_le HBM.out G8.out)) (Nat.le_trans HW0.out G8.out)); have n1_ := Aside0.mk (gb_own HGR.out hgr G8.out); have mBK6_ := Aside0.mk (blk_grown BK6.out hgr (by simpa using N8.out)); clear HG HGR BK8 BK6; have HG := n0_; have HGR := n1_; have BK8 := Aside0.mk hbox; have BK6 := mBK6_; clear n0_ n1_ hbox hgr mBK6_; have hx0 : w5.cell? ⟨g8, 0, none⟩ = some (.bool x1) := (blk_cell BK8.out 0).trans rfl; have hx2 : w5.cell? ⟨g8, 2, none⟩ = some (.int .i64 z1) := (blk_cell BK8.out 2).trans rfl) | ((with_reducible refine out_store (gp := g6) (x := (!x1)) (y := (t : Int)) (z := (wrap64 (z1 + 1))) ?hgd 6 ?hd (c0 := .bool false) (c1 := .int .i64 0) (c2 := .int .i64 0) (t := 60) ?hb (fun hc0 hc1 hc2 hf0 hf1 hf2 => ?hr) ?_); (case hd => exact ⟨_, _, rfl⟩); (case hgd => rfl); (case hb => exact (by (with_reducible repeat (first | refine blk_drewN ?_ _ | refine blk_drew ?_ | refine blk_alloc ?_ _)); exact BK6.out)); (case hr => first | (go_simp; done) | (go_simp; rfl)); intro w5 hbox hgr; have n0_ := Aside0.mk (HG.out.far hgr (Nat.ne_of_lt (Nat.lt_of_lt_of_le HGL.out G6.out)) (Nat.ne_of_lt (Nat.lt_of_lt_of_le HBM.out G6.out)) (Nat.le_trans HW0.out G6.out)); have n1_ := Aside0.mk (gb_own HGR.out hgr G6.out); clear HG HGR BK6 ; have HG := n0_; have HGR := n1_; have BK6 := Aside0.mk hbox; clear n0_ n1_ hbox hgr ))
    refine bodyPost_ret (results_single rfl (.cell g6 60 #[.bool (!x1), .int .i64 (t : Int), .int .i64 (wrap64 (z1 + 1))] (0, 0) _ rfl (by (with_reducible repeat (first | refine blk_drewN ?_ _ | refine blk_drew ?_ | refine blk_alloc ?_ _)); exact BK6.out) Try.underlying60 rfl (by kernel_rfl) .nil)) rfl ?_
    exact ⟨rfl, HG.out, HGR.out⟩
theorem skip_stepB {P : Program} {ops : Array Oper} {o : Oper} {a : Act} {Q : Exit → Act → World → Prop} {Kc : Act → World → Prop} {W w1 : World} (hw : Region.wanted o (yielded ops a.tmps) = true) (hN : o.dst = none) (hrun : (execOp a.eval o).run P W = .ok .skip w1) (h : Kc a w1) : if Region.wanted o (yielded ops a.tmps) = true then Oper.wp P o a W Kc Q else Kc (a.put o.dst undef) W := by
  rw [if_pos hw]
  unfold Oper.wp
  rw [hrun]
  show Kc (a.put o.dst undef) w1
  rw [hN]
  exact h
theorem upd_step {P : Program} {ops : Array Oper} {o : Oper} {a : Act} {Q : Exit → Act → World → Prop} {Kc : Act → World → Prop} {W w1 : World} (hw : Region.wanted o (yielded ops a.tmps) = true) (hN : o.dst = none) {T : TypeId} {m x v : Operand} {mv key val : Value} (hop : o.op = .mapUpdate T m x v) (hm : a.eval m = mv) (hx : a.eval x = key) (hv : a.eval v = val) (hrun : (Instr.mapUpdate T mv key val).run P W = .ok () w1) (h : Kc a w1) : if Region.wanted o (yielded ops a.tmps) = true then Oper.wp P o a W Kc Q else Kc (a.put o.dst undef) W :=
  skip_stepB hw hN (by simp [execOp, hop, hm, hx, hv, hrun, Result.andThen]) h
theorem uint_keyed : Maps.Keyed Try.prog 49 := Maps.int_keyed Try.underlying49
theorem key_of (s : Nat) (h : s < 4096) : keyOf Try.prog 49 (.int .u64 (s : Int)) = some (.int .u64 (s : Int)) := by
  unfold keyOf
  rw [Try.underlying49]
  have h1 : ((s : Int)) < 18446744073709551616 := by omega
  have h0 : (0 : Int) ≤ (s : Int) := by omega
  simp [mapKey, Try.underlying49, Lit.wf, IntKind.min, IntKind.max, IntKind.wrap, IntKind.bits, IntKind.signed]
  omega
theorem zero_out (w : World) : (zeroValue 60).run Try.prog w = .ok (outV (false, 0, 0)) w := by
  kernel_rfl
section
variable {ops : Array Oper} {rest : List Oper} {o : Oper} {a : Act} {Q : Exit → Act → World → Prop}
/-- what is known of a set -/
theorem look_step {W : World} (hgd : o.guard = none) {m x : Operand} (hop : o.op = .lookup 67 m x true) {bm : Nat} {D : DataW Unit} {s : Nat} {b : Bool} {x1 : Bool} {y1 z1 : Int} (hm : a.eval m = .map (some bm)) (hx : a.eval x = .int .u64 (s : Int)) (hs : s < 4096)
    (hown : W.ownsMap Try.prog 49 outR bm (Maps.size D) D) (hb : Maps.has D (.int .u64 (s : Int)) = b) (hat : D.atKey (.int .u64 (s : Int)) (outD (false, 0, 0)) = outD (x1, y1, z1))
    (h : wpList Try.prog ops Q rest (a.put o.dst (.tuple #[.agg #[.bool x1, .int .i64 y1, .int .i64 z1], .bool b])) W) : wpList Try.prog ops Q (o :: rest) a W := by
  refine wpList_lookup_own_ok W hgd m x 67 hop 49 60 uint_keyed Try.underlying67 outR (zero_out W) (outD (false, 0, 0)) [] (outR_mk _) bm _ D hm hown _ (.int .u64 (s : Int)) hx (key_of s hs) (fun v ps hv => ?_)
  rw [hat] at hv
  rw [outR_inv hv, hb]
  exact h
end
theorem owns_tight {w : World} {bm n : Nat} {D : DataW Unit} (h : w.ownsMap Try.prog 49 outR bm n D) : w.ownsMap Try.prog 49 outR bm (Maps.size D) D := by
  obtain ⟨es, clock, hb, F, _, rfl⟩ := h
  exact ⟨es, clock, hb, F, by simp [Maps.size, Go.length_sorted], rfl⟩
theorem Gm.put {w0 w : World} {A0 : Option Addr} {c0 : Nat} {a : Int} {l : List Int} {g bm : Nat} (h : Gm w0 A0 c0 a l g bm w) (hsu : Setup w0 A0 c0 a l g bm) {s : Nat} (hs : s < 4096) {o : Bool × Int × Int} {k : Nat} (ho : bestF k a l s = some o) :
    ∃ w', (Instr.mapUpdate 67 (.map (some bm)) (.int .u64 (s : Int)) (outV o)).run Try.prog w = .ok () w' ∧ Gm w0 A0 c0 a l g bm w' ∧ w.grownBy w' (some bm) := by
  obtain ⟨h1, ⟨D, h2, h3⟩, h4⟩ := h
  have hsz := h3.size (h2.tidy uint_keyed)
  obtain ⟨w', hr, ho', ht⟩ := h2.store uint_keyed Try.underlying67 (Nat.lt_of_le_of_lt hsz (by decide)) (key_of s hs) (outR_mk o)
  exact ⟨w', hr, ⟨blk_grown h1 ht.grown (by simpa using hsu.2.2.2.2.2), ⟨_, owns_tight ho', h3.put hs ho⟩, pw_below_grown h4 (some bm) h4.size ht.grown (by intro k e; injection e with e; rw [← e]; exact hsu.2.2.2.2.1)⟩, ht.grown⟩
set_option maxHeartbeats 4000000 in
set_option maxRecDepth 100000 in
theorem best_known {w0 : World} {A0 : Option Addr} {c0 : Nat} {a : Int} {l : List Int} {g bm : Nat} (s : Nat) (hs : s < 4096) (x1 : Bool) (y1 z1 : Int) (w : World) (hg : Gm w0 A0 c0 a l g bm w) (D : DataW Unit) (hown : w.ownsMap Try.prog 49 outR bm (Maps.size D) D) (hhas : Maps.has D (.int .u64 (s : Int)) = true) (hat : D.atKey (.int .u64 (s : Int)) (outD (false, 0, 0)) = outD (x1, y1, z1)) :
    Calls Try.prog 44 #[.pointer (some ⟨g, 0, none⟩), .int .u64 (s : Int)] w fun e w' => e = .returned (outV (x1, y1, z1)) ∧ Gm w0 A0 c0 a l g bm w' ∧ w.grownBy w' (some bm) := by
  have hu60 := Try.underlying60
  have hu69 := Try.underlying69
  have HG := Aside0.mk hg
  have HGR := Aside0.mk (World.grownBy.refl w (some bm))
  have HBM := Lib.hid hg.bm_lt
  have HGL := Lib.hid hg.g_lt
  have HW0 := Lib.hid hg.2.2.size
  have HS4 := Lib.hid hs
  have HOWN := Aside0.mk hown
  have HHAS := Aside0.mk hhas
  have HAT := Aside0.mk hat
  clear hs hg hown hhas hat
  go_enter Try.func44, Try.ntmps44
  go_wp2_with (first | ((with_reducible refine gate_dst (N := 4) rfl ?_); refine box_event ?hg (N := 4) ?hd (cs := #[.bool false, .int .i64 0, .int .i64 0]) (t := 60) ?hr ?_; (case hd => rfl); (case hg => rfl); (case hr => first | (go_simp; done) | (go_simp; rfl)); intro g4 hg w1 hbox hb; have G4 := Aside0.mk ((by rw [hg]; exact HGR.out.size) : w.heap.size ≤ g4); have N4 := Aside0.mk ((by first | exact trivial | (rw [hg]; exact trivial)) : True); have n0_ := Aside0.mk (HG.out.below hb); have n1_ := Aside0.mk (gb_below HGR.out hb); clear HG HGR ; have HG := n0_; have HGR := n1_; clear n0_ n1_ ; have BK4 := Aside0.mk hbox; have HB4 := Aside0.mk hb; clear hbox hb hg; have n3_ := Aside0.mk (World.ownsMap.kept (row := none) HOWN.out (grown_of_below HB4.out none) (by simp)); clear HOWN HB4; have HOWN := n3_; clear n3_; have hk : w1.cell? ⟨g, 2, none⟩ = some (.map (some bm)) := (blk_cell HG.out.game 2).trans rfl) | (at_lookup; refine look_step (D := D) (s := s) (x1 := x1) (y1 := y1) (z1 := z1) rfl rfl rfl rfl HS4.out (World.ownsMap.kept (row := none) HOWN.out (grown_of_below (by (with_reducible repeat (first | apply below_alloc | apply pw_below_drewN | apply below_drew1)); exact Below.refl _ _) none) (by simp)) HHAS.out HAT.out ?_) | ((with_reducible refine gate_dst (N := 5) rfl ?_); refine box_event ?hg (N := 5) ?hd (cs := #[.bool false, .int .i64 0, .int .i64 0]) (t := 60) ?hr ?_; (case hd => rfl); (case hg => rfl); (case hr => first | (go_simp; done) | (go_simp; rfl)); intro g5 hg w1 hbox hb; have G5 := Aside0.mk ((by rw [hg]; exact HGR.out.size) : w.heap.size ≤ g5); have N5 := Aside0.mk ((by first | exact trivial | (rw [hg]; exact Nat.ne_of_lt (blk_lt BK4.out))) : g4 ≠ g5); have n0_ := Aside0.mk (HG.out.below hb); have n1_ := Aside0.mk (gb_below HGR.out hb); have mBK4_ := Aside0.mk (blk_below BK4.out hb); clear HG HGR BK4; have HG := n0_; have HGR := n1_; have BK4 := mBK4_; clear n0_ n1_ mBK4_; have BK5 := Aside0.mk hbox; clear hbox hb hg) | ((with_reducible refine out_store (gp := g5) (x := x1) (y := y1) (z := z1) ?hgd 5 ?hd (c0 := .bool false) (c1 := .int .i64 0) (c2 := .int .i64 0) (t := 60) ?hb (fun hc0 hc1 hc2 hf0 hf1 hf2 => ?hr) ?_); (case hd => exact ⟨_, _, rfl⟩); (case hgd => rfl); (case hb => exact (by (with_reducible repeat (first | refine blk_drewN ?_ _ | refine blk_drew ?_ | refine blk_alloc ?_ _)); exact BK5.out)); (case hr => first | (go_simp; done) | (go_simp; rfl)); intro w5 hbox hgr; have n0_ := Aside0.mk (HG.out.far hgr (Nat.ne_of_lt (Nat.lt_of_lt_of_le HGL.out G5.out)) (Nat.ne_of_lt (Nat.lt_of_lt_of_le HBM.out G5.out)) (Nat.le_trans HW0.out G5.out)); have n1_ := Aside0.mk (gb_own HGR.out hgr G5.out); have mBK4_ := Aside0.mk (blk_grown BK4.out hgr (by simpa using N5.out)); clear HG HGR BK5 BK4; have HG := n0_; have HGR := n1_; have BK5 := Aside0.mk hbox; have BK4 := mBK4_; clear n0_ n1_ hbox hgr mBK4_; have hx5_0 : w5.cell? ⟨g5, 0, none⟩ = some (.bool x1) := (blk_cell BK5.out 0).trans rfl; have hx5_1 : w5.cell? ⟨g5, 1, none⟩ = some (.int .i64 y1) := (blk_cell BK5.out 1).trans rfl; have hx5_2 : w5.cell? ⟨g5, 2, none⟩ = some (.int .i64 z1) := (blk_cell BK5.out 2).trans rfl) | ((with_reducible refine out_store (gp := g4) (x := x1) (y := y1) (z := z1) ?hgd 4 ?hd (c0 := .bool false) (c1 := .int .i64 0) (c2 := .int .i64 0) (t := 60) ?hb (fun hc0 hc1 hc2 hf0 hf1 hf2 => ?hr) ?_); (case hd => exact ⟨_, _, rfl⟩); (case hgd => rfl); (case hb => exact (by (with_reducible repeat (first | refine blk_drewN ?_ _ | refine blk_drew ?_ | refine blk_alloc ?_ _)); exact BK4.out)); (case hr => first | (go_simp; done) | (go_simp; rfl)); intro w5 hbox hgr; have n0_ := Aside0.mk (HG.out.far hgr (Nat.ne_of_lt (Nat.lt_of_lt_of_le HGL.out G4.out)) (Nat.ne_of_lt (Nat.lt_of_lt_of_le HBM.out G4.out)) (Nat.le_trans HW0.out G4.out)); have n1_ := Aside0.mk (gb_own HGR.out hgr G4.out); clear HG HGR BK4 ; have HG := n0_; have HGR := n1_; have BK4 := Aside0.mk hbox; clear n0_ n1_ hbox hgr ))
  refine bodyPost_ret (results_single rfl (.cell g4 60 #[.bool x1, .int .i64 y1, .int .i64 z1] (0, 0) _ rfl (by (with_reducible repeat (first | refine blk_drewN ?_ _ | refine blk_drew ?_ | refine blk_alloc ?_ _)); exact BK4.out) Try.underlying60 rfl (by kernel_rfl) .nil)) rfl ?_
  exact ⟨rfl, HG.out, HGR.out⟩
theorem Gm.row {w0 w w1 : World} {A0 : Option Addr} {c0 : Nat} {a : Int} {l : List Int} {g bm : Nat} {row : Option Nat} (h : Gm w0 A0 c0 a l g bm w) (hg : w.grownBy w1 row) (hr : ∀ k, row = some k → (k ≠ g ∧ k ≠ bm) ∧ w0.heap.size ≤ k) : Gm w0 A0 c0 a l g bm w1 := by
  cases row with
  | none => exact h.grown hg
  | some p =>
    obtain ⟨⟨h1, h2⟩, h3⟩ := hr p rfl
    exact h.far hg (fun e => h1 e.symm) (fun e => h2 e.symm) h3
set_option maxHeartbeats 4000000 in
set_option maxRecDepth 100000 in
theorem best_step {w0 : World} {A0 : Option Addr} {c0 : Nat} {a : Int} {l : List Int} {g bm : Nat} (hsu : Setup w0 A0 c0 a l g bm) (k : Nat) (hbest : BestAt w0 A0 c0 a l g bm k) : BestAt w0 A0 c0 a l g bm (k + 1) := by
  intro s o w hs ho hg
  have hg0 := hg
  obtain ⟨_, ⟨D, hown, hkn⟩, _⟩ := hg0
  cases hhas : Maps.has D (.int .u64 (s : Int)) with
  | true =>
    obtain ⟨o', k', hat, ho'⟩ := hkn.2 s hhas
    obtain rfl := bestF_det ho' ho
    exact best_known s hs _ _ _ w hg D hown hhas (hat _)
  | false =>
    have hat := Maps.atKey_of_not_has hhas (outD (false, 0, 0))
    have hu60 := Try.underlying60
    have hu69 := Try.underlying69
    have hu28 := Try.underlying28
    have HG := Aside0.mk hg
    have HSU := Aside0.mk hsu
    have HBEST := Aside0.mk hbest
    have HGR := Aside0.mk (World.grownBy.refl w (some bm))
    have HBM := Lib.hid hg.bm_lt
    have HGL := Lib.hid hg.g_lt
    have HW0 := Lib.hid hg.2.2.size
    have HS4 := Lib.hid hs
    have HOWN := Aside0.mk hown
    have HHAS := Aside0.mk hhas
    have HAT := Aside0.mk hat
    have HO := Aside0.mk ho
    unfold bestF at ho
    replace ho := Option.bind_eq_some_iff.mp ho
    obtain ⟨r, hr, ho⟩ := ho
    injection ho with ho
    have HP := Aside0.mk hr
    have HRO := Aside0.mk ho
    clear hs hg hown hhas hat hkn hsu hbest ho hr
    go_enter Try.func44, Try.ntmps44
    go_wp2_with (first | ((with_reducible refine gate_dst (N := 4) rfl ?_); refine box_event ?hg (N := 4) ?hd (cs := #[.bool false, .int .i64 0, .int .i64 0]) (t := 60) ?hr ?_; (case hd => rfl); (case hg => rfl); (case hr => first | (go_simp; done) | (go_simp; rfl)); intro g4 hg w1 hbox hb; have G4 := Aside0.mk ((by rw [hg]; exact HGR.out.size) : w.heap.size ≤ g4); have N4 := Aside0.mk ((by first | exact trivial | (rw [hg]; exact trivial)) : True); have n0_ := Aside0.mk (HG.out.below hb); have n1_ := Aside0.mk (gb_below HGR.out hb); clear HG HGR ; have HG := n0_; have HGR := n1_; clear n0_ n1_ ; have BK4 := Aside0.mk hbox; have HB4 := Aside0.mk hb; clear hbox hb hg; have n3_ := Aside0.mk (World.ownsMap.kept (row := none) HOWN.out (grown_of_below HB4.out none) (by simp)); clear HOWN HB4; have HOWN := n3_; clear n3_; have hk : w1.cell? ⟨g, 2, none⟩ = some (.map (some bm)) := (blk_cell HG.out.game 2).trans rfl) | (at_lookup; refine look_step (D := D) (s := s) (x1 := false) (y1 := 0) (z1 := 0) rfl rfl rfl rfl HS4.out (World.ownsMap.kept (row := none) HOWN.out (grown_of_below (by (with_reducible repeat (first | apply below_alloc | apply pw_below_drewN | apply below_drew1)); exact Below.refl _ _) none) (by simp)) HHAS.out HAT.out ?_) | ((with_reducible refine gate_dst (N := 5) rfl ?_); refine box_event ?hg (N := 5) ?hd (cs := #[.bool false, .int .i64 0, .int .i64 0]) (t := 60) ?hr ?_; (case hd => rfl); (case hg => rfl); (case hr => first | (go_simp; done) | (go_simp; rfl)); intro g5 hg w1 hbox hb; have G5 := Aside0.mk ((by rw [hg]; exact HGR.out.size) : w.heap.size ≤ g5); have N5 := Aside0.mk ((by first | exact trivial | (rw [hg]; exact Nat.ne_of_lt (blk_lt BK4.out))) : g4 ≠ g5); have n0_ := Aside0.mk (HG.out.below hb); have n1_ := Aside0.mk (gb_below HGR.out hb); have mBK4_ := Aside0.mk (blk_below BK4.out hb); clear HG HGR BK4; have HG := n0_; have HGR := n1_; have BK4 := mBK4_; clear n0_ n1_ mBK4_; have BK5 := Aside0.mk hbox; clear hbox hb hg) | ((with_reducible refine out_store (gp := g5) (x := false) (y := 0) (z := 0) ?hgd 5 ?hd (c0 := .bool false) (c1 := .int .i64 0) (c2 := .int .i64 0) (t := 60) ?hb (fun hc0 hc1 hc2 hf0 hf1 hf2 => ?hr) ?_); (case hd => exact ⟨_, _, rfl⟩); (case hgd => rfl); (case hb => exact (by (with_reducible repeat (first | refine blk_drewN ?_ _ | refine blk_drew ?_ | refine blk_alloc ?_ _)); exact BK5.out)); (case hr => first | (go_simp; done) | (go_simp; rfl)); intro w5 hbox hgr; have n0_ := Aside0.mk (HG.out.far hgr (Nat.ne_of_lt (Nat.lt_of_lt_of_le HGL.out G5.out)) (Nat.ne_of_lt (Nat.lt_of_lt_of_le HBM.out G5.out)) (Nat.le_trans HW0.out G5.out)); have n1_ := Aside0.mk (gb_own HGR.out hgr G5.out); have mBK4_ := Aside0.mk (blk_grown BK4.out hgr (by simpa using N5.out)); clear HG HGR BK5 BK4; have HG := n0_; have HGR := n1_; have BK5 := Aside0.mk hbox; have BK4 := mBK4_; clear n0_ n1_ hbox hgr mBK4_) | ((with_reducible refine gate_dst (N := 7) rfl ?_); refine box_event ?hg (N := 7) ?hd (cs := #[.bool false, .int .i64 0, .int .i64 0]) (t := 60) ?hr ?_; (case hd => rfl); (case hg => rfl); (case hr => first | (go_simp; done) | (go_simp; rfl)); intro g7 hg w1 hbox hb; have G7 := Aside0.mk ((by rw [hg]; exact HGR.out.size) : w.heap.size ≤ g7); have N7 := Aside0.mk ((by first | exact trivial | (rw [hg]; exact Nat.ne_of_lt (blk_lt BK4.out))) : g4 ≠ g7); have n0_ := Aside0.mk (HG.out.below hb); have n1_ := Aside0.mk (gb_below HGR.out hb); have mBK4_ := Aside0.mk (blk_below BK4.out hb); clear HG HGR BK4; have HG := n0_; have HGR := n1_; have BK4 := mBK4_; clear n0_ n1_ mBK4_; have BK7 := Aside0.mk hbox; clear hbox hb hg) | ((with_reducible refine out_store (gp := g7) (x := false) (y := 0) (z := 0) ?hgd 7 ?hd (c0 := .bool false) (c1 := .int .i64 0) (c2 := .int .i64 0) (t := 60) ?hb (fun hc0 hc1 hc2 hf0 hf1 hf2 => ?hr) ?_); (case hd => exact ⟨_, _, rfl⟩); (case hgd => rfl); (case hb => exact (by (with_reducible repeat (first | refine blk_drewN ?_ _ | refine blk_drew ?_ | refine blk_alloc ?_ _)); exact BK7.out)); (case hr => first | (go_simp; done) | (go_simp; rfl)); intro w5 hbox hgr; have n0_ := Aside0.mk (HG.out.far hgr (Nat.ne_of_lt (Nat.lt_of_lt_of_le HGL.out G7.out)) (Nat.ne_of_lt (Nat.lt_of_lt_of_le HBM.out G7.out)) (Nat.le_trans HW0.out G7.out)); have n1_ := Aside0.mk (gb_own HGR.out hgr G7.out); have mBK4_ := Aside0.mk (blk_grown BK4.out hgr (by simpa using N7.out)); clear HG HGR BK7 BK4; have HG := n0_; have HGR := n1_; have BK7 := Aside0.mk hbox; have BK4 := mBK4_; clear n0_ n1_ hbox hgr mBK4_; have hgz : w5.cell? ⟨g, 1, none⟩ = some (.slice A0 l.length c0) := (blk_cell HG.out.game 1).trans rfl))
    go_loopg [8, 30] l.length (fun gg v8 v30 wi => ∃ (i : Nat) (b : Option (Bool × Int × Int)), i ≤ l.length ∧ l.length - i ≤ gg ∧ v30 = .int .i64 (i : Int) ∧ v8 = .bool b.isNone ∧ Aside0 (bestGo (takeX (bestF k a l) k a l s) s (l.length - i) i b = some r) ∧ Aside0 (Gm w0 A0 c0 a l g bm wi) ∧ Aside0 (w.grownBy wi (some bm)) ∧ Aside0 (wi.heap[g4]? = some (.cells #[.bool false, .int .i64 0, .int .i64 0] 60 (0, 0))) ∧ Aside0 (wi.heap[g7]? = some (.cells #[.bool (b.getD (false, 0, 0)).1, .int .i64 (b.getD (false, 0, 0)).2.1, .int .i64 (b.getD (false, 0, 0)).2.2] 60 (0, 0))))
    case atStart => exact ⟨0, none, Nat.zero_le _, by omega, rfl, rfl, HP, HG, HGR, BK4, BK7⟩
    case round =>
      clear HG HGR BK4 BK7
      obtain ⟨i, b, hi, hgg, rfl, rfl, HP, HG, HGR, BK4, BK7⟩ := hrel
      have hi12 : i < l.length → i < 12 := fun h => Nat.lt_of_lt_of_le h HSU.out.2.2.1
      by_cases hlt : i < l.length
      · have d1 : decide ((i : Int) < (l.length : Int)) = true := decide_eq_true (by omega)
        have hp := HP.out
        rw [show l.length - i = (l.length - (i + 1)) + 1 by omega, bestGo] at hp
        have hsm : s < 4611686018427387904 := by have h1 := HS4.out; omega
        have h12 := hi12 hlt
        have e23 : ((s : Int) / 2 ^ min i 64) = (s : Int) / 2 ^ i := by rw [Nat.min_eq_left (by omega)]
        obtain ⟨x, hx⟩ : ∃ x : Int, x = ((s / 2 ^ i % 2 : Nat) : Int) := ⟨_, rfl⟩
        have e24 : Go.bits .and .u64 ((s : Int) / 2 ^ i) 1 = x := by
          have h1 := and_oneU (s / 2 ^ i) (Nat.lt_of_le_of_lt (Nat.div_le_self _ _) hsm)
          have h2 := shr_nat s i (by omega)
          rw [e23] at h2
          rw [h2, h1, hx]
        have HI := Lib.hid hlt
        have HI12 := Lib.hid h12
        have HWI := Lib.hid (show wrap64 ((i : Int) + 1) = ((i + 1 : Nat) : Int) by clear e23 e24; unfold wrap64; omega)
        clear hlt hi hi12 hsm h12 HP
        by_cases hz : s / 2 ^ i % 2 = 0
        · rw [if_pos hz] at hp
          have d2 : (x == 0) = true := by rw [hx, hz]; rfl
          have HP := Aside0.mk hp
          clear hp hx hz
          go_wp2
          go_roundg (l.length - (i + 1))
          case measure => have := HI.out; omega
          case rel => exact ⟨i + 1, b, HI.out, Nat.le_refl _, by rw [← HWI.out], rfl, HP, ⟨(by (with_reducible repeat (first | apply Gm.drewN | apply Gm.drew)); exact HG.out)⟩, ⟨(by first | exact HGR.out | exact gb_below HGR.out (pw_below_drewN (Below.refl _ _) _) | exact gb_below HGR.out (below_drew1 (Below.refl _ _)))⟩, ⟨(by (with_reducible repeat (first | refine blk_drewN ?_ _ | refine blk_drew ?_ | refine blk_alloc ?_ _)); exact BK4.out)⟩, ⟨(by (with_reducible repeat (first | refine blk_drewN ?_ _ | refine blk_drew ?_ | refine blk_alloc ?_ _)); exact BK7.out)⟩⟩
        · rw [if_neg hz] at hp
          have d2 : (x == 0) = false := by
            have hxne : x ≠ 0 := by
              generalize s / 2 ^ i % 2 = q at hx hz
              omega
            simpa using hxne
          replace hp := Option.bind_eq_some_iff.mp hp
          obtain ⟨⟨x1, y1, z1⟩, ht, hp⟩ := hp
          have HTK := Aside0.mk ht
          have HBIT := Lib.hid hz
          clear ht hz hx
          rcases b with _ | ⟨bx, by_, bz⟩
          · cases x1 with
            | true =>
              have HP := Aside0.mk hp
              clear hp
              go_wp2_with (first | ((with_reducible refine (take_calls HSU.out k HBEST.out s i HS4.out HI12.out HBIT.out k (true, y1, z1) HTK.out _ ?sg).mono ?_); (case sg => exact (by (with_reducible repeat (first | apply Gm.drewN | apply Gm.drew)); exact HG.out)); rintro e w3 ⟨rfl, hg, hgr⟩; have n0_ := Aside0.mk hg; have n1_ := Aside0.mk (World.grownBy.trans (by first | exact HGR.out | exact gb_below HGR.out (pw_below_drewN (Below.refl _ _) _) | exact gb_below HGR.out (below_drew1 (Below.refl _ _))) hgr); have n2_ := Aside0.mk (gb_far (by (with_reducible repeat (first | refine blk_drewN ?_ _ | refine blk_drew ?_ | refine blk_alloc ?_ _)); exact BK4.out) hgr (Nat.ne_of_gt (Nat.lt_of_lt_of_le HBM.out G4.out))); have n3_ := Aside0.mk (gb_far (by (with_reducible repeat (first | refine blk_drewN ?_ _ | refine blk_drew ?_ | refine blk_alloc ?_ _)); exact BK7.out) hgr (Nat.ne_of_gt (Nat.lt_of_lt_of_le HBM.out G7.out))); clear HG HGR BK4 BK7 hg hgr; have HG := n0_; have HGR := n1_; have BK4 := n2_; have BK7 := n3_; clear n0_ n1_ n2_ n3_; (try simp only [outV])) | ((with_reducible refine gate_dst (N := 10) rfl ?_); refine box_event ?hg (N := 10) ?hd (cs := #[.bool false, .int .i64 0, .int .i64 0]) (t := 60) ?hr ?_; (case hd => rfl); (case hg => rfl); (case hr => first | (go_simp; done) | (go_simp; rfl)); intro g10 hg w1 hbox hb; have G10 := Aside0.mk ((by rw [hg]; exact HGR.out.size) : w.heap.size ≤ g10); have N10 := Aside0.mk ((by first | exact trivial | (rw [hg]; exact ⟨Nat.ne_of_lt (blk_lt BK4.out), Nat.ne_of_lt (blk_lt BK7.out)⟩)) : g4 ≠ g10 ∧ g7 ≠ g10); have n0_ := Aside0.mk (HG.out.below hb); have n1_ := Aside0.mk (gb_below HGR.out hb); have mBK4_ := Aside0.mk (blk_below BK4.out hb); have mBK7_ := Aside0.mk (blk_below BK7.out hb); clear HG HGR BK4 BK7; have HG := n0_; have HGR := n1_; have BK4 := mBK4_; have BK7 := mBK7_; clear n0_ n1_ mBK4_ mBK7_; have BK10 := Aside0.mk hbox; clear hbox hb hg) | ((with_reducible refine out_store (gp := g10) (x := true) (y := y1) (z := z1) ?hgd 10 ?hd (c0 := .bool false) (c1 := .int .i64 0) (c2 := .int .i64 0) (t := 60) ?hb (fun hc0 hc1 hc2 hf0 hf1 hf2 => ?hr) ?_); (case hd => exact ⟨_, _, rfl⟩); (case hgd => rfl); (case hb => exact (by (with_reducible repeat (first | refine blk_drewN ?_ _ | refine blk_drew ?_ | refine blk_alloc ?_ _)); exact BK10.out)); (case hr => first | (go_simp; done) | (go_simp; rfl)); intro w5 hbox hgr; have n0_ := Aside0.mk (HG.out.far hgr (Nat.ne_of_lt (Nat.lt_of_lt_of_le HGL.out G10.out)) (Nat.ne_of_lt (Nat.lt_of_lt_of_le HBM.out G10.out)) (Nat.le_trans HW0.out G10.out)); have n1_ := Aside0.mk (gb_own HGR.out hgr G10.out); have mBK4_ := Aside0.mk (blk_grown BK4.out hgr (by simpa using N10.out.1)); have mBK7_ := Aside0.mk (blk_grown BK7.out hgr (by simpa using N10.out.2)); clear HG HGR BK10 BK4 BK7; have HG := n0_; have HGR := n1_; have BK10 := Aside0.mk hbox; have BK4 := mBK4_; have BK7 := mBK7_; clear n0_ n1_ hbox hgr mBK4_ mBK7_; have hx10_0 : w5.cell? ⟨g10, 0, none⟩ = some (.bool true) := (blk_cell BK10.out 0).trans rfl; have hx10_1 : w5.cell? ⟨g10, 1, none⟩ = some (.int .i64 y1) := (blk_cell BK10.out 1).trans rfl; have hx10_2 : w5.cell? ⟨g10, 2, none⟩ = some (.int .i64 z1) := (blk_cell BK10.out 2).trans rfl; have hx7_0 : w5.cell? ⟨g7, 0, none⟩ = some (.bool false) := (blk_cell BK7.out 0).trans rfl; have hx7_1 : w5.cell? ⟨g7, 1, none⟩ = some (.int .i64 0) := (blk_cell BK7.out 1).trans rfl; have hx7_2 : w5.cell? ⟨g7, 2, none⟩ = some (.int .i64 0) := (blk_cell BK7.out 2).trans rfl) | ((with_reducible refine out_store (gp := g7) (x := true) (y := y1) (z := z1) ?hgd 7 ?hd (c0 := .bool false) (c1 := .int .i64 0) (c2 := .int .i64 0) (t := 60) ?hb (fun hc0 hc1 hc2 hf0 hf1 hf2 => ?hr) ?_); (case hd => exact ⟨_, _, rfl⟩); (case hgd => rfl); (case hb => exact (by (with_reducible repeat (first | refine blk_drewN ?_ _ | refine blk_drew ?_ | refine blk_alloc ?_ _)); exact BK7.out)); (case hr => first | (go_simp; done) | (go_simp; rfl)); intro w5 hbox hgr; have n0_ := Aside0.mk (HG.out.far hgr (Nat.ne_of_lt (Nat.lt_of_lt_of_le HGL.out G7.out)) (Nat.ne_of_lt (Nat.lt_of_lt_of_le HBM.out G7.out)) (Nat.le_trans HW0.out G7.out)); have n1_ := Aside0.mk (gb_own HGR.out hgr G7.out); have mBK4_ := Aside0.mk (blk_grown BK4.out hgr (by simpa using N7.out)); clear HG HGR BK7 BK4; have HG := n0_; have HGR := n1_; have BK7 := Aside0.mk hbox; have BK4 := mBK4_; clear n0_ n1_ hbox hgr mBK4_))
              go_roundg (l.length - (i + 1))
              case measure => have := HI.out; omega
              case rel => exact ⟨i + 1, some (true, y1, z1), HI.out, Nat.le_refl _, by rw [← HWI.out], rfl, HP, ⟨(by (with_reducible repeat (first | apply Gm.drewN | apply Gm.drew)); exact HG.out)⟩, ⟨(by first | exact HGR.out | exact gb_below HGR.out (pw_below_drewN (Below.refl _ _) _) | exact gb_below HGR.out (below_drew1 (Below.refl _ _)))⟩, ⟨(by (with_reducible repeat (first | refine blk_drewN ?_ _ | refine blk_drew ?_ | refine blk_alloc ?_ _)); exact BK4.out)⟩, ⟨(by (with_reducible repeat (first | refine blk_drewN ?_ _ | refine blk_drew ?_ | refine blk_alloc ?_ _)); exact BK7.out)⟩⟩
            | false =>
              cases dg : decide (0 < z1) with
              | true =>
                have HP := Aside0.mk hp
                clear hp
                go_wp2_with (first | ((with_reducible refine (take_calls HSU.out k HBEST.out s i HS4.out HI12.out HBIT.out k (false, y1, z1) HTK.out _ ?sg).mono ?_); (case sg => exact (by (with_reducible repeat (first | apply Gm.drewN | apply Gm.drew)); exact HG.out)); rintro e w3 ⟨rfl, hg, hgr⟩; have n0_ := Aside0.mk hg; have n1_ := Aside0.mk (World.grownBy.trans (by first | exact HGR.out | exact gb_below HGR.out (pw_below_drewN (Below.refl _ _) _) | exact gb_below HGR.out (below_drew1 (Below.refl _ _))) hgr); have n2_ := Aside0.mk (gb_far (by (with_reducible repeat (first | refine blk_drewN ?_ _ | refine blk_drew ?_ | refine blk_alloc ?_ _)); exact BK4.out) hgr (Nat.ne_of_gt (Nat.lt_of_lt_of_le HBM.out G4.out))); have n3_ := Aside0.mk (gb_far (by (with_reducible repeat (first | refine blk_drewN ?_ _ | refine blk_drew ?_ | refine blk_alloc ?_ _)); exact BK7.out) hgr (Nat.ne_of_gt (Nat.lt_of_lt_of_le HBM.out G7.out))); clear HG HGR BK4 BK7 hg hgr; have HG := n0_; have HGR := n1_; have BK4 := n2_; have BK7 := n3_; clear n0_ n1_ n2_ n3_; (try simp only [outV])) | ((with_reducible refine gate_dst (N := 10) rfl ?_); refine box_event ?hg (N := 10) ?hd (cs := #[.bool false, .int .i64 0, .int .i64 0]) (t := 60) ?hr ?_; (case hd => rfl); (case hg => rfl); (case hr => first | (go_simp; done) | (go_simp; rfl)); intro g10 hg w1 hbox hb; have G10 := Aside0.mk ((by rw [hg]; exact HGR.out.size) : w.heap.size ≤ g10); have N10 := Aside0.mk ((by first | exact trivial | (rw [hg]; exact ⟨Nat.ne_of_lt (blk_lt BK4.out), Nat.ne_of_lt (blk_lt BK7.out)⟩)) : g4 ≠ g10 ∧ g7 ≠ g10); have n0_ := Aside0.mk (HG.out.below hb); have n1_ := Aside0.mk (gb_below HGR.out hb); have mBK4_ := Aside0.mk (blk_below BK4.out hb); have mBK7_ := Aside0.mk (blk_below BK7.out hb); clear HG HGR BK4 BK7; have HG := n0_; have HGR := n1_; have BK4 := mBK4_; have BK7 := mBK7_; clear n0_ n1_ mBK4_ mBK7_; have BK10 := Aside0.mk hbox; clear hbox hb hg) | ((with_reducible refine out_store (gp := g10) (x := false) (y := y1) (z := z1) ?hgd 10 ?hd (c0 := .bool false) (c1 := .int .i64 0) (c2 := .int .i64 0) (t := 60) ?hb (fun hc0 hc1 hc2 hf0 hf1 hf2 => ?hr) ?_); (case hd => exact ⟨_, _, rfl⟩); (case hgd => rfl); (case hb => exact (by (with_reducible repeat (first | refine blk_drewN ?_ _ | refine blk_drew ?_ | refine blk_alloc ?_ _)); exact BK10.out)); (case hr => first | (go_simp; done) | (go_simp; rfl)); intro w5 hbox hgr; have n0_ := Aside0.mk (HG.out.far hgr (Nat.ne_of_lt (Nat.lt_of_lt_of_le HGL.out G10.out)) (Nat.ne_of_lt (Nat.lt_of_lt_of_le HBM.out G10.out)) (Nat.le_trans HW0.out G10.out)); have n1_ := Aside0.mk (gb_own HGR.out hgr G10.out); have mBK4_ := Aside0.mk (blk_grown BK4.out hgr (by simpa using N10.out.1)); have mBK7_ := Aside0.mk (blk_grown BK7.out hgr (by simpa using N10.out.2)); clear HG HGR BK10 BK4 BK7; have HG := n0_; have HGR := n1_; have BK10 := Aside0.mk hbox; have BK4 := mBK4_; have BK7 := mBK7_; clear n0_ n1_ hbox hgr mBK4_ mBK7_; have hx10_0 : w5.cell? ⟨g10, 0, none⟩ = some (.bool false) := (blk_cell BK10.out 0).trans rfl; have hx10_1 : w5.cell? ⟨g10, 1, none⟩ = some (.int .i64 y1) := (blk_cell BK10.out 1).trans rfl; have hx10_2 : w5.cell? ⟨g10, 2, none⟩ = some (.int .i64 z1) := (blk_cell BK10.out 2).trans rfl; have hx7_0 : w5.cell? ⟨g7, 0, none⟩ = some (.bool false) := (blk_cell BK7.out 0).trans rfl; have hx7_1 : w5.cell? ⟨g7, 1, none⟩ = some (.int .i64 0) := (blk_cell BK7.out 1).trans rfl; have hx7_2 : w5.cell? ⟨g7, 2, none⟩ = some (.int .i64 0) := (blk_cell BK7.out 2).trans rfl) | ((with_reducible refine out_store (gp := g7) (x := false) (y := y1) (z := z1) ?hgd 7 ?hd (c0 := .bool false) (c1 := .int .i64 0) (c2 := .int .i64 0) (t := 60) ?hb (fun hc0 hc1 hc2 hf0 hf1 hf2 => ?hr) ?_); (case hd => exact ⟨_, _, rfl⟩); (case hgd => rfl); (case hb => exact (by (with_reducible repeat (first | refine blk_drewN ?_ _ | refine blk_drew ?_ | refine blk_alloc ?_ _)); exact BK7.out)); (case hr => first | (go_simp; done) | (go_simp; rfl)); intro w5 hbox hgr; have n0_ := Aside0.mk (HG.out.far hgr (Nat.ne_of_lt (Nat.lt_of_lt_of_le HGL.out G7.out)) (Nat.ne_of_lt (Nat.lt_of_lt_of_le HBM.out G7.out)) (Nat.le_trans HW0.out G7.out)); have n1_ := Aside0.mk (gb_own HGR.out hgr G7.out); have mBK4_ := Aside0.mk (blk_grown BK4.out hgr (by simpa using N7.out)); clear HG HGR BK7 BK4; have HG := n0_; have HGR := n1_; have BK7 := Aside0.mk hbox; have BK4 := mBK4_; clear n0_ n1_ hbox hgr mBK4_))
                go_roundg (l.length - (i + 1))
                case measure => have := HI.out; omega
                case rel => exact ⟨i + 1, some (false, y1, z1), HI.out, Nat.le_refl _, by rw [← HWI.out], rfl, HP, ⟨(by (with_reducible repeat (first | apply Gm.drewN | apply Gm.drew)); exact HG.out)⟩, ⟨(by first | exact HGR.out | exact gb_below HGR.out (pw_below_drewN (Below.refl _ _) _) | exact gb_below HGR.out (below_drew1 (Below.refl _ _)))⟩, ⟨(by (with_reducible repeat (first | refine blk_drewN ?_ _ | refine blk_drew ?_ | refine blk_alloc ?_ _)); exact BK4.out)⟩, ⟨(by (with_reducible repeat (first | refine blk_drewN ?_ _ | refine blk_drew ?_ | refine blk_alloc ?_ _)); exact BK7.out)⟩⟩
              | false =>
                have HP := Aside0.mk hp
                clear hp
                go_wp2_with (first | ((with_reducible refine (take_calls HSU.out k HBEST.out s i HS4.out HI12.out HBIT.out k (false, y1, z1) HTK.out _ ?sg).mono ?_); (case sg => exact (by (with_reducible repeat (first | apply Gm.drewN | apply Gm.drew)); exact HG.out)); rintro e w3 ⟨rfl, hg, hgr⟩; have n0_ := Aside0.mk hg; have n1_ := Aside0.mk (World.grownBy.trans (by first | exact HGR.out | exact gb_below HGR.out (pw_below_drewN (Below.refl _ _) _) | exact gb_below HGR.out (below_drew1 (Below.refl _ _))) hgr); have n2_ := Aside0.mk (gb_far (by (with_reducible repeat (first | refine blk_drewN ?_ _ | refine blk_drew ?_ | refine blk_alloc ?_ _)); exact BK4.out) hgr (Nat.ne_of_gt (Nat.lt_of_lt_of_le HBM.out G4.out))); have n3_ := Aside0.mk (gb_far (by (with_reducible repeat (first | refine blk_drewN ?_ _ | refine blk_drew ?_ | refine blk_alloc ?_ _)); exact BK7.out) hgr (Nat.ne_of_gt (Nat.lt_of_lt_of_le HBM.out G7.out))); clear HG HGR BK4 BK7 hg hgr; have HG := n0_; have HGR := n1_; have BK4 := n2_; have BK7 := n3_; clear n0_ n1_ n2_ n3_; (try simp only [outV])) | ((with_reducible refine gate_dst (N := 10) rfl ?_); refine box_event ?hg (N := 10) ?hd (cs := #[.bool false, .int .i64 0, .int .i64 0]) (t := 60) ?hr ?_; (case hd => rfl); (case hg => rfl); (case hr => first | (go_simp; done) | (go_simp; rfl)); intro g10 hg w1 hbox hb; have G10 := Aside0.mk ((by rw [hg]; exact HGR.out.size) : w.heap.size ≤ g10); have N10 := Aside0.mk ((by first | exact trivial | (rw [hg]; exact ⟨Nat.ne_of_lt (blk_lt BK4.out), Nat.ne_of_lt (blk_lt BK7.out)⟩)) : g4 ≠ g10 ∧ g7 ≠ g10); have n0_ := Aside0.mk (HG.out.below hb); have n1_ := Aside0.mk (gb_below HGR.out hb); have mBK4_ := Aside0.mk (blk_below BK4.out hb); have mBK7_ := Aside0.mk (blk_below BK7.out hb); clear HG HGR BK4 BK7; have HG := n0_; have HGR := n1_; have BK4 := mBK4_; have BK7 := mBK7_; clear n0_ n1_ mBK4_ mBK7_; have BK10 := Aside0.mk hbox; clear hbox hb hg) | ((with_reducible refine out_store (gp := g10) (x := false) (y := y1) (z := z1) ?hgd 10 ?hd (c0 := .bool false) (c1 := .int .i64 0) (c2 := .int .i64 0) (t := 60) ?hb (fun hc0 hc1 hc2 hf0 hf1 hf2 => ?hr) ?_); (case hd => exact ⟨_, _, rfl⟩); (case hgd => rfl); (case hb => exact (by (with_reducible repeat (first | refine blk_drewN ?_ _ | refine blk_drew ?_ | refine blk_alloc ?_ _)); exact BK10.out)); (case hr => first | (go_simp; done) | (go_simp; rfl)); intro w5 hbox hgr; have n0_ := Aside0.mk (HG.out.far hgr (Nat.ne_of_lt (Nat.lt_of_lt_of_le HGL.out G10.out)) (Nat.ne_of_lt (Nat.lt_of_lt_of_le HBM.out G10.out)) (Nat.le_trans HW0.out G10.out)); have n1_ := Aside0.mk (gb_own HGR.out hgr G10.out); have mBK4_ := Aside0.mk (blk_grown BK4.out hgr (by simpa using N10.out.1)); have mBK7_ := Aside0.mk (blk_grown BK7.out hgr (by simpa using N10.out.2)); clear HG HGR BK10 BK4 BK7; have HG := n0_; have HGR := n1_; have BK10 := Aside0.mk hbox; have BK4 := mBK4_; have BK7 := mBK7_; clear n0_ n1_ hbox hgr mBK4_ mBK7_; have hx10_0 : w5.cell? ⟨g10, 0, none⟩ = some (.bool false) := (blk_cell BK10.out 0).trans rfl; have hx10_1 : w5.cell? ⟨g10, 1, none⟩ = some (.int .i64 y1) := (blk_cell BK10.out 1).trans rfl; have hx10_2 : w5.cell? ⟨g10, 2, none⟩ = some (.int .i64 z1) := (blk_cell BK10.out 2).trans rfl; have hx7_0 : w5.cell? ⟨g7, 0, none⟩ = some (.bool false) := (blk_cell BK7.out 0).trans rfl; have hx7_1 : w5.cell? ⟨g7, 1, none⟩ = some (.int .i64 0) := (blk_cell BK7.out 1).trans rfl; have hx7_2 : w5.cell? ⟨g7, 2, none⟩ = some (.int .i64 0) := (blk_cell BK7.out 2).trans rfl) | ((with_reducible refine out_store (gp := g7) (x := false) (y := y1) (z := z1) ?hgd 7 ?hd (c0 := .bool false) (c1 := .int .i64 0) (c2 := .int .i64 0) (t := 60) ?hb (fun hc0 hc1 hc2 hf0 hf1 hf2 => ?hr) ?_); (case hd => exact ⟨_, _, rfl⟩); (case hgd => rfl); (case hb => exact (by (with_reducible repeat (first | refine blk_drewN ?_ _ | refine blk_drew ?_ | refine blk_alloc ?_ _)); exact BK7.out)); (case hr => first | (go_simp; done) | (go_simp; rfl)); intro w5 hbox hgr; have n0_ := Aside0.mk (HG.out.far hgr (Nat.ne_of_lt (Nat.lt_of_lt_of_le HGL.out G7.out)) (Nat.ne_of_lt (Nat.lt_of_lt_of_le HBM.out G7.out)) (Nat.le_trans HW0.out G7.out)); have n1_ := Aside0.mk (gb_own HGR.out hgr G7.out); have mBK4_ := Aside0.mk (blk_grown BK4.out hgr (by simpa using N7.out)); clear HG HGR BK7 BK4; have HG := n0_; have HGR := n1_; have BK7 := Aside0.mk hbox; have BK4 := mBK4_; clear n0_ n1_ hbox hgr mBK4_))
                go_roundg (l.length - (i + 1))
                case measure => have := HI.out; omega
                case rel => exact ⟨i + 1, some (false, y1, z1), HI.out, Nat.le_refl _, by rw [← HWI.out], rfl, HP, ⟨(by (with_reducible repeat (first | apply Gm.drewN | apply Gm.drew)); exact HG.out)⟩, ⟨(by first | exact HGR.out | exact gb_below HGR.out (pw_below_drewN (Below.refl _ _) _) | exact gb_below HGR.out (below_drew1 (Below.refl _ _)))⟩, ⟨(by (with_reducible repeat (first | refine blk_drewN ?_ _ | refine blk_drew ?_ | refine blk_alloc ?_ _)); exact BK4.out)⟩, ⟨(by (with_reducible repeat (first | refine blk_drewN ?_ _ | refine blk_drew ?_ | refine blk_alloc ?_ _)); exact BK7.out)⟩⟩
          · cases x1 with
            | true =>
              cases bx with
              | false =>
                have HP := Aside0.mk (show bestGo (takeX (bestF k a l) k a l s) s (l.length - (i + 1)) (i + 1) (some (true, y1, z1)) = some r by rw [← hp]; simp [pickO, betterB])
                clear hp
                go_wp2_with (first | ((with_reducible refine (take_calls HSU.out k HBEST.out s i HS4.out HI12.out HBIT.out k (true, y1, z1) HTK.out _ ?sg).mono ?_); (case sg => exact (by (with_reducible repeat (first | apply Gm.drewN | apply Gm.drew)); exact HG.out)); rintro e w3 ⟨rfl, hg, hgr⟩; have n0_ := Aside0.mk hg; have n1_ := Aside0.mk (World.grownBy.trans (by first | exact HGR.out | exact gb_below HGR.out (pw_below_drewN (Below.refl _ _) _) | exact gb_below HGR.out (below_drew1 (Below.refl _ _))) hgr); have n2_ := Aside0.mk (gb_far (by (with_reducible repeat (first | refine blk_drewN ?_ _ | refine blk_drew ?_ | refine blk_alloc ?_ _)); exact BK4.out) hgr (Nat.ne_of_gt (Nat.lt_of_lt_of_le HBM.out G4.out))); have n3_ := Aside0.mk (gb_far (by (with_reducible repeat (first | refine blk_drewN ?_ _ | refine blk_drew ?_ | refine blk_alloc ?_ _)); exact BK7.out) hgr (Nat.ne_of_gt (Nat.lt_of_lt_of_le HBM.out G7.out))); clear HG HGR BK4 BK7 hg hgr; have HG := n0_; have HGR := n1_; have BK4 := n2_; have BK7 := n3_; clear n0_ n1_ n2_ n3_; (try simp only [outV])) | ((with_reducible refine gate_dst (N := 10) rfl ?_); refine box_event ?hg (N := 10) ?hd (cs := #[.bool false, .int .i64 0, .int .i64 0]) (t := 60) ?hr ?_; (case hd => rfl); (case hg => rfl); (case hr => first | (go_simp; done) | (go_simp; rfl)); intro g10 hg w1 hbox hb; have G10 := Aside0.mk ((by rw [hg]; exact HGR.out.size) : w.heap.size ≤ g10); have N10 := Aside0.mk ((by first | exact trivial | (rw [hg]; exact ⟨Nat.ne_of_lt (blk_lt BK4.out), Nat.ne_of_lt (blk_lt BK7.out)⟩)) : g4 ≠ g10 ∧ g7 ≠ g10); have n0_ := Aside0.mk (HG.out.below hb); have n1_ := Aside0.mk (gb_below HGR.out hb); have mBK4_ := Aside0.mk (blk_below BK4.out hb); have mBK7_ := Aside0.mk (blk_below BK7.out hb); clear HG HGR BK4 BK7; have HG := n0_; have HGR := n1_; have BK4 := mBK4_; have BK7 := mBK7_; clear n0_ n1_ mBK4_ mBK7_; have BK10 := Aside0.mk hbox; clear hbox hb hg) | ((with_reducible refine out_store (gp := g10) (x := true) (y := y1) (z := z1) ?hgd 10 ?hd (c0 := .bool false) (c1 := .int .i64 0) (c2 := .int .i64 0) (t := 60) ?hb (fun hc0 hc1 hc2 hf0 hf1 hf2 => ?hr) ?_); (case hd => exact ⟨_, _, rfl⟩); (case hgd => rfl); (case hb => exact (by (with_reducible repeat (first | refine blk_drewN ?_ _ | refine blk_drew ?_ | refine blk_alloc ?_ _)); exact BK10.out)); (case hr => first | (go_simp; done) | (go_simp; rfl)); intro w5 hbox hgr; have n0_ := Aside0.mk (HG.out.far hgr (Nat.ne_of_lt (Nat.lt_of_lt_of_le HGL.out G10.out)) (Nat.ne_of_lt (Nat.lt_of_lt_of_le HBM.out G10.out)) (Nat.le_trans HW0.out G10.out)); have n1_ := Aside0.mk (gb_own HGR.out hgr G10.out); have mBK4_ := Aside0.mk (blk_grown BK4.out hgr (by simpa using N10.out.1)); have mBK7_ := Aside0.mk (blk_grown BK7.out hgr (by simpa using N10.out.2)); clear HG HGR BK10 BK4 BK7; have HG := n0_; have HGR := n1_; have BK10 := Aside0.mk hbox; have BK4 := mBK4_; have BK7 := mBK7_; clear n0_ n1_ hbox hgr mBK4_ mBK7_; have hx10_0 : w5.cell? ⟨g10, 0, none⟩ = some (.bool true) := (blk_cell BK10.out 0).trans rfl; have hx10_1 : w5.cell? ⟨g10, 1, none⟩ = some (.int .i64 y1) := (blk_cell BK10.out 1).trans rfl; have hx10_2 : w5.cell? ⟨g10, 2, none⟩ = some (.int .i64 z1) := (blk_cell BK10.out 2).trans rfl; have hx7_0 : w5.cell? ⟨g7, 0, none⟩ = some (.bool false) := (blk_cell BK7.out 0).trans rfl; have hx7_1 : w5.cell? ⟨g7, 1, none⟩ = some (.int .i64 by_) := (blk_cell BK7.out 1).trans rfl; have hx7_2 : w5.cell? ⟨g7, 2, none⟩ = some (.int .i64 bz) := (blk_cell BK7.out 2).trans rfl) | ((with_reducible refine out_store (gp := g7) (x := true) (y := y1) (z := z1) ?hgd 7 ?hd (c0 := .bool false) (c1 := .int .i64 by_) (c2 := .int .i64 bz) (t := 60) ?hb (fun hc0 hc1 hc2 hf0 hf1 hf2 => ?hr) ?_); (case hd => exact ⟨_, _, rfl⟩); (case hgd => rfl); (case hb => exact (by (with_reducible repeat (first | refine blk_drewN ?_ _ | refine blk_drew ?_ | refine blk_alloc ?_ _)); exact BK7.out)); (case hr => first | (go_simp; done) | (go_simp; rfl)); intro w5 hbox hgr; have n0_ := Aside0.mk (HG.out.far hgr (Nat.ne_of_lt (Nat.lt_of_lt_of_le HGL.out G7.out)) (Nat.ne_of_lt (Nat.lt_of_lt_of_le HBM.out G7.out)) (Nat.le_trans HW0.out G7.out)); have n1_ := Aside0.mk (gb_own HGR.out hgr G7.out); have mBK4_ := Aside0.mk (blk_grown BK4.out hgr (by simpa using N7.out)); clear HG HGR BK7 BK4; have HG := n0_; have HGR := n1_; have BK7 := Aside0.mk hbox; have BK4 := mBK4_; clear n0_ n1_ hbox hgr mBK4_))
                go_roundg (l.length - (i + 1))
                case measure => have := HI.out; omega
                case rel => exact ⟨i + 1, some (true, y1, z1), HI.out, Nat.le_refl _, by rw [← HWI.out], rfl, HP, ⟨(by (with_reducible repeat (first | apply Gm.drewN | apply Gm.drew)); exact HG.out)⟩, ⟨(by first | exact HGR.out | exact gb_below HGR.out (pw_below_drewN (Below.refl _ _) _) | exact gb_below HGR.out (below_drew1 (Below.refl _ _)))⟩, ⟨(by (with_reducible repeat (first | refine blk_drewN ?_ _ | refine blk_drew ?_ | refine blk_alloc ?_ _)); exact BK4.out)⟩, ⟨(by (with_reducible repeat (first | refine blk_drewN ?_ _ | refine blk_drew ?_ | refine blk_alloc ?_ _)); exact BK7.out)⟩⟩
              | true =>
                cases dl : decide (z1 < bz) with
                | true =>
                  have dl' := of_decide_eq_true dl
                  have HP := Aside0.mk (show bestGo (takeX (bestF k a l) k a l s) s (l.length - (i + 1)) (i + 1) (some (true, y1, z1)) = some r by rw [← hp]; simp [pickO, betterB, dl'])
                  clear hp
                  go_wp2_with (first | ((with_reducible refine (take_calls HSU.out k HBEST.out s i HS4.out HI12.out HBIT.out k (true, y1, z1) HTK.out _ ?sg).mono ?_); (case sg => exact (by (with_reducible repeat (first | apply Gm.drewN | apply Gm.drew)); exact HG.out)); rintro e w3 ⟨rfl, hg, hgr⟩; have n0_ := Aside0.mk hg; have n1_ := Aside0.mk (World.grownBy.trans (by first | exact HGR.out | exact gb_below HGR.out (pw_below_drewN (Below.refl _ _) _) | exact gb_below HGR.out (below_drew1 (Below.refl _ _))) hgr); have n2_ := Aside0.mk (gb_far (by (with_reducible repeat (first | refine blk_drewN ?_ _ | refine blk_drew ?_ | refine blk_alloc ?_ _)); exact BK4.out) hgr (Nat.ne_of_gt (Nat.lt_of_lt_of_le HBM.out G4.out))); have n3_ := Aside0.mk (gb_far (by (with_reducible repeat (first | refine blk_drewN ?_ _ | refine blk_drew ?_ | refine blk_alloc ?_ _)); exact BK7.out) hgr (Nat.ne_of_gt (Nat.lt_of_lt_of_le HBM.out G7.out))); clear HG HGR BK4 BK7 hg hgr; have HG := n0_; have HGR := n1_; have BK4 := n2_; have BK7 := n3_; clear n0_ n1_ n2_ n3_; (try simp only [outV])) | ((with_reducible refine gate_dst (N := 10) rfl ?_); refine box_event ?hg (N := 10) ?hd (cs := #[.bool false, .int .i64 0, .int .i64 0]) (t := 60) ?hr ?_; (case hd => rfl); (case hg => rfl); (case hr => first | (go_simp; done) | (go_simp; rfl)); intro g10 hg w1 hbox hb; have G10 := Aside0.mk ((by rw [hg]; exact HGR.out.size) : w.heap.size ≤ g10); have N10 := Aside0.mk ((by first | exact trivial | (rw [hg]; exact ⟨Nat.ne_of_lt (blk_lt BK4.out), Nat.ne_of_lt (blk_lt BK7.out)⟩)) : g4 ≠ g10 ∧ g7 ≠ g10); have n0_ := Aside0.mk (HG.out.below hb); have n1_ := Aside0.mk (gb_below HGR.out hb); have mBK4_ := Aside0.mk (blk_below BK4.out hb); have mBK7_ := Aside0.mk (blk_below BK7.out hb); clear HG HGR BK4 BK7; have HG := n0_; have HGR := n1_; have BK4 := mBK4_; have BK7 := mBK7_; clear n0_ n1_ mBK4_ mBK7_; have BK10 := Aside0.mk hbox; clear hbox hb hg) | ((with_reducible refine out_store (gp := g10) (x := true) (y := y1) (z := z1) ?hgd 10 ?hd (c0 := .bool false) (c1 := .int .i64 0) (c2 := .int .i64 0) (t := 60) ?hb (fun hc0 hc1 hc2 hf0 hf1 hf2 => ?hr) ?_); (case hd => exact ⟨_, _, rfl⟩); (case hgd => rfl); (case hb => exact (by (with_reducible repeat (first | refine blk_drewN ?_ _ | refine blk_drew ?_ | refine blk_alloc ?_ _)); exact BK10.out)); (case hr => first | (go_simp; done) | (go_simp; rfl)); intro w5 hbox hgr; have n0_ := Aside0.mk (HG.out.far hgr (Nat.ne_of_lt (Nat.lt_of_lt_of_le HGL.out G10.out)) (Nat.ne_of_lt (Nat.lt_of_lt_of_le HBM.out G10.out)) (Nat.le_trans HW0.out G10.out)); have n1_ := Aside0.mk (gb_own HGR.out hgr G10.out); have mBK4_ := Aside0.mk (blk_grown BK4.out hgr (by simpa using N10.out.1)); have mBK7_ := Aside0.mk (blk_grown BK7.out hgr (by simpa using N10.out.2)); clear HG HGR BK10 BK4 BK7; have HG := n0_; have HGR := n1_; have BK10 := Aside0.mk hbox; have BK4 := mBK4_; have BK7 := mBK7_; clear n0_ n1_ hbox hgr mBK4_ mBK7_; have hx10_0 : w5.cell? ⟨g10, 0, none⟩ = some (.bool true) := (blk_cell BK10.out 0).trans rfl; have hx10_1 : w5.cell? ⟨g10, 1, none⟩ = some (.int .i64 y1) := (blk_cell BK10.out 1).trans rfl; have hx10_2 : w5.cell? ⟨g10, 2, none⟩ = some (.int .i64 z1) := (blk_cell BK10.out 2).trans rfl; have hx7_0 : w5.cell? ⟨g7, 0, none⟩ = some (.bool true) := (blk_cell BK7.out 0).trans rfl; have hx7_1 : w5.cell? ⟨g7, 1, none⟩ = some (.int .i64 by_) := (blk_cell BK7.out 1).trans rfl; have hx7_2 : w5.cell? ⟨g7, 2, none⟩ = some (.int .i64 bz) := (blk_cell BK7.out 2).trans rfl) | ((with_reducible refine out_store (gp := g7) (x := true) (y := y1) (z := z1) ?hgd 7 ?hd (c0 := .bool true) (c1 := .int .i64 by_) (c2 := .int .i64 bz) (t := 60) ?hb (fun hc0 hc1 hc2 hf0 hf1 hf2 => ?hr) ?_); (case hd => exact ⟨_, _, rfl⟩); (case hgd => rfl); (case hb => exact (by (with_reducible repeat (first | refine blk_drewN ?_ _ | refine blk_drew ?_ | refine blk_alloc ?_ _)); exact BK7.out)); (case hr => first | (go_simp; done) | (go_simp; rfl)); intro w5 hbox hgr; have n0_ := Aside0.mk (HG.out.far hgr (Nat.ne_of_lt (Nat.lt_of_lt_of_le HGL.out G7.out)) (Nat.ne_of_lt (Nat.lt_of_lt_of_le HBM.out G7.out)) (Nat.le_trans HW0.out G7.out)); have n1_ := Aside0.mk (gb_own HGR.out hgr G7.out); have mBK4_ := Aside0.mk (blk_grown BK4.out hgr (by simpa using N7.out)); clear HG HGR BK7 BK4; have HG := n0_; have HGR := n1_; have BK7 := Aside0.mk hbox; have BK4 := mBK4_; clear n0_ n1_ hbox hgr mBK4_))
                  go_roundg (l.length - (i + 1))
                  case measure => have := HI.out; omega
                  case rel => exact ⟨i + 1, some (true, y1, z1), HI.out, Nat.le_refl _, by rw [← HWI.out], rfl, HP, ⟨(by (with_reducible repeat (first | apply Gm.drewN | apply Gm.drew)); exact HG.out)⟩, ⟨(by first | exact HGR.out | exact gb_below HGR.out (pw_below_drewN (Below.refl _ _) _) | exact gb_below HGR.out (below_drew1 (Below.refl _ _)))⟩, ⟨(by (with_reducible repeat (first | refine blk_drewN ?_ _ | refine blk_drew ?_ | refine blk_alloc ?_ _)); exact BK4.out)⟩, ⟨(by (with_reducible repeat (first | refine blk_drewN ?_ _ | refine blk_drew ?_ | refine blk_alloc ?_ _)); exact BK7.out)⟩⟩
                | false =>
                  have dl' := of_decide_eq_false dl
                  have HP := Aside0.mk (show bestGo (takeX (bestF k a l) k a l s) s (l.length - (i + 1)) (i + 1) (some (true, by_, bz)) = some r by rw [← hp]; simp [pickO, betterB, dl'])
                  clear hp
                  go_wp2_with (first | ((with_reducible refine (take_calls HSU.out k HBEST.out s i HS4.out HI12.out HBIT.out k (true, y1, z1) HTK.out _ ?sg).mono ?_); (case sg => exact (by (with_reducible repeat (first | apply Gm.drewN | apply Gm.drew)); exact HG.out)); rintro e w3 ⟨rfl, hg, hgr⟩; have n0_ := Aside0.mk hg; have n1_ := Aside0.mk (World.grownBy.trans (by first | exact HGR.out | exact gb_below HGR.out (pw_below_drewN (Below.refl _ _) _) | exact gb_below HGR.out (below_drew1 (Below.refl _ _))) hgr); have n2_ := Aside0.mk (gb_far (by (with_reducible repeat (first | refine blk_drewN ?_ _ | refine blk_drew ?_ | refine blk_alloc ?_ _)); exact BK4.out) hgr (Nat.ne_of_gt (Nat.lt_of_lt_of_le HBM.out G4.out))); have n3_ := Aside0.mk (gb_far (by (with_reducible repeat (first | refine blk_drewN ?_ _ | refine blk_drew ?_ | refine blk_alloc ?_ _)); exact BK7.out) hgr (Nat.ne_of_gt (Nat.lt_of_lt_of_le HBM.out G7.out))); clear HG HGR BK4 BK7 hg hgr; have HG := n0_; have HGR := n1_; have BK4 := n2_; have BK7 := n3_; clear n0_ n1_ n2_ n3_; (try simp only [outV])) | ((with_reducible refine gate_dst (N := 10) rfl ?_); refine box_event ?hg (N := 10) ?hd (cs := #[.bool false, .int .i64 0, .int .i64 0]) (t := 60) ?hr ?_; (case hd => rfl); (case hg => rfl); (case hr => first | (go_simp; done) | (go_simp; rfl)); intro g10 hg w1 hbox hb; have G10 := Aside0.mk ((by rw [hg]; exact HGR.out.size) : w.heap.size ≤ g10); have N10 := Aside0.mk ((by first | exact trivial | (rw [hg]; exact ⟨Nat.ne_of_lt (blk_lt BK4.out), Nat.ne_of_lt (blk_lt BK7.out)⟩)) : g4 ≠ g10 ∧ g7 ≠ g10); have n0_ := Aside0.mk (HG.out.below hb); have n1_ := Aside0.mk (gb_below HGR.out hb); have mBK4_ := Aside0.mk (blk_below BK4.out hb); have mBK7_ := Aside0.mk (blk_below BK7.out hb); clear HG HGR BK4 BK7; have HG := n0_; have HGR := n1_; have BK4 := mBK4_; have BK7 := mBK7_; clear n0_ n1_ mBK4_ mBK7_; have BK10 := Aside0.mk hbox; clear hbox hb hg) | ((with_reducible refine out_store (gp := g10) (x := true) (y := y1) (z := z1) ?hgd 10 ?hd (c0 := .bool false) (c1 := .int .i64 0) (c2 := .int .i64 0) (t := 60) ?hb (fun hc0 hc1 hc2 hf0 hf1 hf2 => ?hr) ?_); (case hd => exact ⟨_, _, rfl⟩); (case hgd => rfl); (case hb => exact (by (with_reducible repeat (first | refine blk_drewN ?_ _ | refine blk_drew ?_ | refine blk_alloc ?_ _)); exact BK10.out)); (case hr => first | (go_simp; done) | (go_simp; rfl)); intro w5 hbox hgr; have n0_ := Aside0.mk (HG.out.far hgr (Nat.ne_of_lt (Nat.lt_of_lt_of_le HGL.out G10.out)) (Nat.ne_of_lt (Nat.lt_of_lt_of_le HBM.out G10.out)) (Nat.le_trans HW0.out G10.out)); have n1_ := Aside0.mk (gb_own HGR.out hgr G10.out); have mBK4_ := Aside0.mk (blk_grown BK4.out hgr (by simpa using N10.out.1)); have mBK7_ := Aside0.mk (blk_grown BK7.out hgr (by simpa using N10.out.2)); clear HG HGR BK10 BK4 BK7; have HG := n0_; have HGR := n1_; have BK10 := Aside0.mk hbox; have BK4 := mBK4_; have BK7 := mBK7_; clear n0_ n1_ hbox hgr mBK4_ mBK7_; have hx10_0 : w5.cell? ⟨g10, 0, none⟩ = some (.bool true) := (blk_cell BK10.out 0).trans rfl; have hx10_1 : w5.cell? ⟨g10, 1, none⟩ = some (.int .i64 y1) := (blk_cell BK10.out 1).trans rfl; have hx10_2 : w5.cell? ⟨g10, 2, none⟩ = some (.int .i64 z1) := (blk_cell BK10.out 2).trans rfl; have hx7_0 : w5.cell? ⟨g7, 0, none⟩ = some (.bool true) := (blk_cell BK7.out 0).trans rfl; have hx7_1 : w5.cell? ⟨g7, 1, none⟩ = some (.int .i64 by_) := (blk_cell BK7.out 1).trans rfl; have hx7_2 : w5.cell? ⟨g7, 2, none⟩ = some (.int .i64 bz) := (blk_cell BK7.out 2).trans rfl) | ((with_reducible refine out_store (gp := g7) (x := true) (y := y1) (z := z1) ?hgd 7 ?hd (c0 := .bool true) (c1 := .int .i64 by_) (c2 := .int .i64 bz) (t := 60) ?hb (fun hc0 hc1 hc2 hf0 hf1 hf2 => ?hr) ?_); (case hd => exact ⟨_, _, rfl⟩); (case hgd => rfl); (case hb => exact (by (with_reducible repeat (first | refine blk_drewN ?_ _ | refine blk_drew ?_ | refine blk_alloc ?_ _)); exact BK7.out)); (case hr => first | (go_simp; done) | (go_simp; rfl)); intro w5 hbox hgr; have n0_ := Aside0.mk (HG.out.far hgr (Nat.ne_of_lt (Nat.lt_of_lt_of_le HGL.out G7.out)) (Nat.ne_of_lt (Nat.lt_of_lt_of_le HBM.out G7.out)) (Nat.le_trans HW0.out G7.out)); have n1_ := Aside0.mk (gb_own HGR.out hgr G7.out); have mBK4_ := Aside0.mk (blk_grown BK4.out hgr (by simpa using N7.out)); clear HG HGR BK7 BK4; have HG := n0_; have HGR := n1_; have BK7 := Aside0.mk hbox; have BK4 := mBK4_; clear n0_ n1_ hbox hgr mBK4_))
                  go_roundg (l.length - (i + 1))
                  case measure => have := HI.out; omega
                  case rel => exact ⟨i + 1, some (true, by_, bz), HI.out, Nat.le_refl _, by rw [← HWI.out], rfl, HP, ⟨(by (with_reducible repeat (first | apply Gm.drewN | apply Gm.drew)); exact HG.out)⟩, ⟨(by first | exact HGR.out | exact gb_below HGR.out (pw_below_drewN (Below.refl _ _) _) | exact gb_below HGR.out (below_drew1 (Below.refl _ _)))⟩, ⟨(by (with_reducible repeat (first | refine blk_drewN ?_ _ | refine blk_drew ?_ | refine blk_alloc ?_ _)); exact BK4.out)⟩, ⟨(by (with_reducible repeat (first | refine blk_drewN ?_ _ | refine blk_drew ?_ | refine blk_alloc ?_ _)); exact BK7.out)⟩⟩
            | false =>
              cases bx with
              | true =>
                have HP := Aside0.mk (show bestGo (takeX (bestF k a l) k a l s) s (l.length - (i + 1)) (i + 1) (some (true, by_, bz)) = some r by rw [← hp]; simp [pickO, betterB])
                clear hp
                go_wp2_with (first | ((with_reducible refine (take_calls HSU.out k HBEST.out s i HS4.out HI12.out HBIT.out k (false, y1, z1) HTK.out _ ?sg).mono ?_); (case sg => exact (by (with_reducible repeat (first | apply Gm.drewN | apply Gm.drew)); exact HG.out)); rintro e w3 ⟨rfl, hg, hgr⟩; have n0_ := Aside0.mk hg; have n1_ := Aside0.mk (World.grownBy.trans (by first | exact HGR.out | exact gb_below HGR.out (pw_below_drewN (Below.refl _ _) _) | exact gb_below HGR.out (below_drew1 (Below.refl _ _))) hgr); have n2_ := Aside0.mk (gb_far (by (with_reducible repeat (first | refine blk_drewN ?_ _ | refine blk_drew ?_ | refine blk_alloc ?_ _)); exact BK4.out) hgr (Nat.ne_of_gt (Nat.lt_of_lt_of_le HBM.out G4.out))); have n3_ := Aside0.mk (gb_far (by (with_reducible repeat (first | refine blk_drewN ?_ _ | refine blk_drew ?_ | refine blk_alloc ?_ _)); exact BK7.out) hgr (Nat.ne_of_gt (Nat.lt_of_lt_of_le HBM.out G7.out))); clear HG HGR BK4 BK7 hg hgr; have HG := n0_; have HGR := n1_; have BK4 := n2_; have BK7 := n3_; clear n0_ n1_ n2_ n3_; (try simp only [outV])) | ((with_reducible refine gate_dst (N := 10) rfl ?_); refine box_event ?hg (N := 10) ?hd (cs := #[.bool false, .int .i64 0, .int .i64 0]) (t := 60) ?hr ?_; (case hd => rfl); (case hg => rfl); (case hr => first | (go_simp; done) | (go_simp; rfl)); intro g10 hg w1 hbox hb; have G10 := Aside0.mk ((by rw [hg]; exact HGR.out.size) : w.heap.size ≤ g10); have N10 := Aside0.mk ((by first | exact trivial | (rw [hg]; exact ⟨Nat.ne_of_lt (blk_lt BK4.out), Nat.ne_of_lt (blk_lt BK7.out)⟩)) : g4 ≠ g10 ∧ g7 ≠ g10); have n0_ := Aside0.mk (HG.out.below hb); have n1_ := Aside0.mk (gb_below HGR.out hb); have mBK4_ := Aside0.mk (blk_below BK4.out hb); have mBK7_ := Aside0.mk (blk_below BK7.out hb); clear HG HGR BK4 BK7; have HG := n0_; have HGR := n1_; have BK4 := mBK4_; have BK7 := mBK7_; clear n0_ n1_ mBK4_ mBK7_; have BK10 := Aside0.mk hbox; clear hbox hb hg) | ((with_reducible refine out_store (gp := g10) (x := false) (y := y1) (z := z1) ?hgd 10 ?hd (c0 := .bool false) (c1 := .int .i64 0) (c2 := .int .i64 0) (t := 60) ?hb (fun hc0 hc1 hc2 hf0 hf1 hf2 => ?hr) ?_); (case hd => exact ⟨_, _, rfl⟩); (case hgd => rfl); (case hb => exact (by (with_reducible repeat (first | refine blk_drewN ?_ _ | refine blk_drew ?_ | refine blk_alloc ?_ _)); exact BK10.out)); (case hr => first | (go_simp; done) | (go_simp; rfl)); intro w5 hbox hgr; have n0_ := Aside0.mk (HG.out.far hgr (Nat.ne_of_lt (Nat.lt_of_lt_of_le HGL.out G10.out)) (Nat.ne_of_lt (Nat.lt_of_lt_of_le HBM.out G10.out)) (Nat.le_trans HW0.out G10.out)); have n1_ := Aside0.mk (gb_own HGR.out hgr G10.out); have mBK4_ := Aside0.mk (blk_grown BK4.out hgr (by simpa using N10.out.1)); have mBK7_ := Aside0.mk (blk_grown BK7.out hgr (by simpa using N10.out.2)); clear HG HGR BK10 BK4 BK7; have HG := n0_; have HGR := n1_; have BK10 := Aside0.mk hbox; have BK4 := mBK4_; have BK7 := mBK7_; clear n0_ n1_ hbox hgr mBK4_ mBK7_; have hx10_0 : w5.cell? ⟨g10, 0, none⟩ = some (.bool false) := (blk_cell BK10.out 0).trans rfl; have hx10_1 : w5.cell? ⟨g10, 1, none⟩ = some (.int .i64 y1) := (blk_cell BK10.out 1).trans rfl; have hx10_2 : w5.cell? ⟨g10, 2, none⟩ = some (.int .i64 z1) := (blk_cell BK10.out 2).trans rfl; have hx7_0 : w5.cell? ⟨g7, 0, none⟩ = some (.bool true) := (blk_cell BK7.out 0).trans rfl; have hx7_1 : w5.cell? ⟨g7, 1, none⟩ = some (.int .i64 by_) := (blk_cell BK7.out 1).trans rfl; have hx7_2 : w5.cell? ⟨g7, 2, none⟩ = some (.int .i64 bz) := (blk_cell BK7.out 2).trans rfl) | ((with_reducible refine out_store (gp := g7) (x := false) (y := y1) (z := z1) ?hgd 7 ?hd (c0 := .bool true) (c1 := .int .i64 by_) (c2 := .int .i64 bz) (t := 60) ?hb (fun hc0 hc1 hc2 hf0 hf1 hf2 => ?hr) ?_); (case hd => exact ⟨_, _, rfl⟩); (case hgd => rfl); (case hb => exact (by (with_reducible repeat (first | refine blk_drewN ?_ _ | refine blk_drew ?_ | refine blk_alloc ?_ _)); exact BK7.out)); (case hr => first | (go_simp; done) | (go_simp; rfl)); intro w5 hbox hgr; have n0_ := Aside0.mk (HG.out.far hgr (Nat.ne_of_lt (Nat.lt_of_lt_of_le HGL.out G7.out)) (Nat.ne_of_lt (Nat.lt_of_lt_of_le HBM.out G7.out)) (Nat.le_trans HW0.out G7.out)); have n1_ := Aside0.mk (gb_own HGR.out hgr G7.out); have mBK4_ := Aside0.mk (blk_grown BK4.out hgr (by simpa using N7.out)); clear HG HGR BK7 BK4; have HG := n0_; have HGR := n1_; have BK7 := Aside0.mk hbox; have BK4 := mBK4_; clear n0_ n1_ hbox hgr mBK4_))
                go_roundg (l.length - (i + 1))
                case measure => have := HI.out; omega
                case rel => exact ⟨i + 1, some (true, by_, bz), HI.out, Nat.le_refl _, by rw [← HWI.out], rfl, HP, ⟨(by (with_reducible repeat (first | apply Gm.drewN | apply Gm.drew)); exact HG.out)⟩, ⟨(by first | exact HGR.out | exact gb_below HGR.out (pw_below_drewN (Below.refl _ _) _) | exact gb_below HGR.out (below_drew1 (Below.refl _ _)))⟩, ⟨(by (with_reducible repeat (first | refine blk_drewN ?_ _ | refine blk_drew ?_ | refine blk_alloc ?_ _)); exact BK4.out)⟩, ⟨(by (with_reducible repeat (first | refine blk_drewN ?_ _ | refine blk_drew ?_ | refine blk_alloc ?_ _)); exact BK7.out)⟩⟩
              | false =>
                cases dg : decide (bz < z1) with
                | true =>
                  have dg' := of_decide_eq_true dg
                  have HP := Aside0.mk (show bestGo (takeX (bestF k a l) k a l s) s (l.length - (i + 1)) (i + 1) (some (false, y1, z1)) = some r by rw [← hp]; simp [pickO, betterB, dg'])
                  clear hp
                  go_wp2_with (first | ((with_reducible refine (take_calls HSU.out k HBEST.out s i HS4.out HI12.out HBIT.out k (false, y1, z1) HTK.out _ ?sg).mono ?_); (case sg => exact (by (with_reducible repeat (first | apply Gm.drewN | apply Gm.drew)); exact HG.out)); rintro e w3 ⟨rfl, hg, hgr⟩; have n0_ := Aside0.mk hg; have n1_ := Aside0.mk (World.grownBy.trans (by first | exact HGR.out | exact gb_below HGR.out (pw_below_drewN (Below.refl _ _) _) | exact gb_below HGR.out (below_drew1 (Below.refl _ _))) hgr); have n2_ := Aside0.mk (gb_far (by (with_reducible repeat (first | refine blk_drewN ?_ _ | refine blk_drew ?_ | refine blk_alloc ?_ _)); exact BK4.out) hgr (Nat.ne_of_gt (Nat.lt_of_lt_of_le HBM.out G4.out))); have n3_ := Aside0.mk (gb_far (by (with_reducible repeat (first | refine blk_drewN ?_ _ | refine blk_drew ?_ | refine blk_alloc ?_ _)); exact BK7.out) hgr (Nat.ne_of_gt (Nat.lt_of_lt_of_le HBM.out G7.out))); clear HG HGR BK4 BK7 hg hgr; have HG := n0_; have HGR := n1_; have BK4 := n2_; have BK7 := n3_; clear n0_ n1_ n2_ n3_; (try simp only [outV])) | ((with_reducible refine gate_dst (N := 10) rfl ?_); refine box_event ?hg (N := 10) ?hd (cs := #[.bool false, .int .i64 0, .int .i64 0]) (t := 60) ?hr ?_; (case hd => rfl); (case hg => rfl); (case hr => first | (go_simp; done) | (go_simp; rfl)); intro g10 hg w1 hbox hb; have G10 := Aside0.mk ((by rw [hg]; exact HGR.out.size) : w.heap.size ≤ g10); have N10 := Aside0.mk ((by first | exact trivial | (rw [hg]; exact ⟨Nat.ne_of_lt (blk_lt BK4.out), Nat.ne_of_lt (blk_lt BK7.out)⟩)) : g4 ≠ g10 ∧ g7 ≠ g10); have n0_ := Aside0.mk (HG.out.below hb); have n1_ := Aside0.mk (gb_below HGR.out hb); have mBK4_ := Aside0.mk (blk_below BK4.out hb); have mBK7_ := Aside0.mk (blk_below BK7.out hb); clear HG HGR BK4 BK7; have HG := n0_; have HGR := n1_; have BK4 := mBK4_; have BK7 := mBK7_; clear n0_ n1_ mBK4_ mBK7_; have BK10 := Aside0.mk hbox; clear hbox hb hg) | ((with_reducible refine out_store (gp := g10) (x := false) (y := y1) (z := z1) ?hgd 10 ?hd (c0 := .bool false) (c1 := .int .i64 0) (c2 := .int .i64 0) (t := 60) ?hb (fun hc0 hc1 hc2 hf0 hf1 hf2 => ?hr) ?_); (case hd => exact ⟨_, _, rfl⟩); (case hgd => rfl); (case hb => exact (by (with_reducible repeat (first | refine blk_drewN ?_ _ | refine blk_drew ?_ | refine blk_alloc ?_ _)); exact BK10.out)); (case hr => first | (go_simp; done) | (go_simp; rfl)); intro w5 hbox hgr; have n0_ := Aside0.mk (HG.out.far hgr (Nat.ne_of_lt (Nat.lt_of_lt_of_le HGL.out G10.out)) (Nat.ne_of_lt (Nat.lt_of_lt_of_le HBM.out G10.out)) (Nat.le_trans HW0.out G10.out)); have n1_ := Aside0.mk (gb_own HGR.out hgr G10.out); have mBK4_ := Aside0.mk (blk_grown BK4.out hgr (by simpa using N10.out.1)); have mBK7_ := Aside0.mk (blk_grown BK7.out hgr (by simpa using N10.out.2)); clear HG HGR BK10 BK4 BK7; have HG := n0_; have HGR := n1_; have BK10 := Aside0.mk hbox; have BK4 := mBK4_; have BK7 := mBK7_; clear n0_ n1_ hbox hgr mBK4_ mBK7_; have hx10_0 : w5.cell? ⟨g10, 0, none⟩ = some (.bool false) := (blk_cell BK10.out 0).trans rfl; have hx10_1 : w5.cell? ⟨g10, 1, none⟩ = some (.int .i64 y1) := (blk_cell BK10.out 1).trans rfl; have hx10_2 : w5.cell? ⟨g10, 2, none⟩ = some (.int .i64 z1) := (blk_cell BK10.out 2).trans rfl; have hx7_0 : w5.cell? ⟨g7, 0, none⟩ = some (.bool false) := (blk_cell BK7.out 0).trans rfl; have hx7_1 : w5.cell? ⟨g7, 1, none⟩ = some (.int .i64 by_) := (blk_cell BK7.out 1).trans rfl; have hx7_2 : w5.cell? ⟨g7, 2, none⟩ = some (.int .i64 bz) := (blk_cell BK7.out 2).trans rfl) | ((with_reducible refine out_store (gp := g7) (x := false) (y := y1) (z := z1) ?hgd 7 ?hd (c0 := .bool false) (c1 := .int .i64 by_) (c2 := .int .i64 bz) (t := 60) ?hb (fun hc0 hc1 hc2 hf0 hf1 hf2 => ?hr) ?_); (case hd => exact ⟨_, _, rfl⟩); (case hgd => rfl); (case hb => exact (by (with_reducible repeat (first | refine blk_drewN ?_ _ | refine blk_drew ?_ | refine blk_alloc ?_ _)); exact BK7.out)); (case hr => first | (go_simp; done) | (go_simp; rfl)); intro w5 hbox hgr; have n0_ := Aside0.mk (HG.out.far hgr (Nat.ne_of_lt (Nat.lt_of_lt_of_le HGL.out G7.out)) (Nat.ne_of_lt (Nat.lt_of_lt_of_le HBM.out G7.out)) (Nat.le_trans HW0.out G7.out)); have n1_ := Aside0.mk (gb_own HGR.out hgr G7.out); have mBK4_ := Aside0.mk (blk_grown BK4.out hgr (by simpa using N7.out)); clear HG HGR BK7 BK4; have HG := n0_; have HGR := n1_; have BK7 := Aside0.mk hbox; have BK4 := mBK4_; clear n0_ n1_ hbox hgr mBK4_))
                  go_roundg (l.length - (i + 1))
                  case measure => have := HI.out; omega
                  case rel => exact ⟨i + 1, some (false, y1, z1), HI.out, Nat.le_refl _, by rw [← HWI.out], rfl, HP, ⟨(by (with_reducible repeat (first | apply Gm.drewN | apply Gm.drew)); exact HG.out)⟩, ⟨(by first | exact HGR.out | exact gb_below HGR.out (pw_below_drewN (Below.refl _ _) _) | exact gb_below HGR.out (below_drew1 (Below.refl _ _)))⟩, ⟨(by (with_reducible repeat (first | refine blk_drewN ?_ _ | refine blk_drew ?_ | refine blk_alloc ?_ _)); exact BK4.out)⟩, ⟨(by (with_reducible repeat (first | refine blk_drewN ?_ _ | refine blk_drew ?_ | refine blk_alloc ?_ _)); exact BK7.out)⟩⟩
                | false =>
                  have dg' := of_decide_eq_false dg
                  have HP := Aside0.mk (show bestGo (takeX (bestF k a l) k a l s) s (l.length - (i + 1)) (i + 1) (some (false, by_, bz)) = some r by rw [← hp]; simp [pickO, betterB, dg'])
                  clear hp
                  go_wp2_with (first | ((with_reducible refine (take_calls HSU.out k HBEST.out s i HS4.out HI12.out HBIT.out k (false, y1, z1) HTK.out _ ?sg).mono ?_); (case sg => exact (by (with_reducible repeat (first | apply Gm.drewN | apply Gm.drew)); exact HG.out)); rintro e w3 ⟨rfl, hg, hgr⟩; have n0_ := Aside0.mk hg; have n1_ := Aside0.mk (World.grownBy.trans (by first | exact HGR.out | exact gb_below HGR.out (pw_below_drewN (Below.refl _ _) _) | exact gb_below HGR.out (below_drew1 (Below.refl _ _))) hgr); have n2_ := Aside0.mk (gb_far (by (with_reducible repeat (first | refine blk_drewN ?_ _ | refine blk_drew ?_ | refine blk_alloc ?_ _)); exact BK4.out) hgr (Nat.ne_of_gt (Nat.lt_of_lt_of_le HBM.out G4.out))); have n3_ := Aside0.mk (gb_far (by (with_reducible repeat (first | refine blk_drewN ?_ _ | refine blk_drew ?_ | refine blk_alloc ?_ _)); exact BK7.out) hgr (Nat.ne_of_gt (Nat.lt_of_lt_of_le HBM.out G7.out))); clear HG HGR BK4 BK7 hg hgr; have HG := n0_; have HGR := n1_; have BK4 := n2_; have BK7 := n3_; clear n0_ n1_ n2_ n3_; (try simp only [outV])) | ((with_reducible refine gate_dst (N := 10) rfl ?_); refine box_event ?hg (N := 10) ?hd (cs := #[.bool false, .int .i64 0, .int .i64 0]) (t := 60) ?hr ?_; (case hd => rfl); (case hg => rfl); (case hr => first | (go_simp; done) | (go_simp; rfl)); intro g10 hg w1 hbox hb; have G10 := Aside0.mk ((by rw [hg]; exact HGR.out.size) : w.heap.size ≤ g10); have N10 := Aside0.mk ((by first | exact trivial | (rw [hg]; exact ⟨Nat.ne_of_lt (blk_lt BK4.out), Nat.ne_of_lt (blk_lt BK7.out)⟩)) : g4 ≠ g10 ∧ g7 ≠ g10); have n0_ := Aside0.mk (HG.out.below hb); have n1_ := Aside0.mk (gb_below HGR.out hb); have mBK4_ := Aside0.mk (blk_below BK4.out hb); have mBK7_ := Aside0.mk (blk_below BK7.out hb); clear HG HGR BK4 BK7; have HG := n0_; have HGR := n1_; have BK4 := mBK4_; have BK7 := mBK7_; clear n0_ n1_ mBK4_ mBK7_; have BK10 := Aside0.mk hbox; clear hbox hb hg) | ((with_reducible refine out_store (gp := g10) (x := false) (y := y1) (z := z1) ?hgd 10 ?hd (c0 := .bool false) (c1 := .int .i64 0) (c2 := .int .i64 0) (t := 60) ?hb (fun hc0 hc1 hc2 hf0 hf1 hf2 => ?hr) ?_); (case hd => exact ⟨_, _, rfl⟩); (case hgd => rfl); (case hb => exact (by (with_reducible repeat (first | refine blk_drewN ?_ _ | refine blk_drew ?_ | refine blk_alloc ?_ _)); exact BK10.out)); (case hr => first | (go_simp; done) | (go_simp; rfl)); intro w5 hbox hgr; have n0_ := Aside0.mk (HG.out.far hgr (Nat.ne_of_lt (Nat.lt_of_lt_of_le HGL.out G10.out)) (Nat.ne_of_lt (Nat.lt_of_lt_of_le HBM.out G10.out)) (Nat.le_trans HW0.out G10.out)); have n1_ := Aside0.mk (gb_own HGR.out hgr G10.out); have mBK4_ := Aside0.mk (blk_grown BK4.out hgr (by simpa using N10.out.1)); have mBK7_ := Aside0.mk (blk_grown BK7.out hgr (by simpa using N10.out.2)); clear HG HGR BK10 BK4 BK7; have HG := n0_; have HGR := n1_; have BK10 := Aside0.mk hbox; have BK4 := mBK4_; have BK7 := mBK7_; clear n0_ n1_ hbox hgr mBK4_ mBK7_; have hx10_0 : w5.cell? ⟨g10, 0, none⟩ = some (.bool false) := (blk_cell BK10.out 0).trans rfl; have hx10_1 : w5.cell? ⟨g10, 1, none⟩ = some (.int .i64 y1) := (blk_cell BK10.out 1).trans rfl; have hx10_2 : w5.cell? ⟨g10, 2, none⟩ = some (.int .i64 z1) := (blk_cell BK10.out 2).trans rfl; have hx7_0 : w5.cell? ⟨g7, 0, none⟩ = some (.bool false) := (blk_cell BK7.out 0).trans rfl; have hx7_1 : w5.cell? ⟨g7, 1, none⟩ = some (.int .i64 by_) := (blk_cell BK7.out 1).trans rfl; have hx7_2 : w5.cell? ⟨g7, 2, none⟩ = some (.int .i64 bz) := (blk_cell BK7.out 2).trans rfl) | ((with_reducible refine out_store (gp := g7) (x := false) (y := y1) (z := z1) ?hgd 7 ?hd (c0 := .bool false) (c1 := .int .i64 by_) (c2 := .int .i64 bz) (t := 60) ?hb (fun hc0 hc1 hc2 hf0 hf1 hf2 => ?hr) ?_); (case hd => exact ⟨_, _, rfl⟩); (case hgd => rfl); (case hb => exact (by (with_reducible repeat (first | refine blk_drewN ?_ _ | refine blk_drew ?_ | refine blk_alloc ?_ _)); exact BK7.out)); (case hr => first | (go_simp; done) | (go_simp; rfl)); intro w5 hbox hgr; have n0_ := Aside0.mk (HG.out.far hgr (Nat.ne_of_lt (Nat.lt_of_lt_of_le HGL.out G7.out)) (Nat.ne_of_lt (Nat.lt_of_lt_of_le HBM.out G7.out)) (Nat.le_trans HW0.out G7.out)); have n1_ := Aside0.mk (gb_own HGR.out hgr G7.out); have mBK4_ := Aside0.mk (blk_grown BK4.out hgr (by simpa using N7.out)); clear HG HGR BK7 BK4; have HG := n0_; have HGR := n1_; have BK7 := Aside0.mk hbox; have BK4 := mBK4_; clear n0_ n1_ hbox hgr mBK4_))
                  go_roundg (l.length - (i + 1))
                  case measure => have := HI.out; omega
                  case rel => exact ⟨i + 1, some (false, by_, bz), HI.out, Nat.le_refl _, by rw [← HWI.out], rfl, HP, ⟨(by (with_reducible repeat (first | apply Gm.drewN | apply Gm.drew)); exact HG.out)⟩, ⟨(by first | exact HGR.out | exact gb_below HGR.out (pw_below_drewN (Below.refl _ _) _) | exact gb_below HGR.out (below_drew1 (Below.refl _ _)))⟩, ⟨(by (with_reducible repeat (first | refine blk_drewN ?_ _ | refine blk_drew ?_ | refine blk_alloc ?_ _)); exact BK4.out)⟩, ⟨(by (with_reducible repeat (first | refine blk_drewN ?_ _ | refine blk_drew ?_ | refine blk_alloc ?_ _)); exact BK7.out)⟩⟩
      · have d1 : decide ((i : Int) < (l.length : Int)) = false := decide_eq_false (by omega)
        obtain rfl : i = l.length := by omega
        have hp := HP.out
        rw [Nat.sub_self, bestGo] at hp
        injection hp with hp
        subst hp
        obtain ⟨⟨qx, qy, qz⟩, hq⟩ : ∃ q, b.getD (false, 0, 0) = q := ⟨_, rfl⟩
        have hro := HRO.out
        rw [hq] at hro
        subst hro
        have bk7 := BK7.out
        rw [hq] at bk7
        clear BK7
        have BK7 := Aside0.mk bk7
        clear hlt hi hi12 HP hq bk7 HRO
        go_wp2
        have BK4b := Aside0.mk (blk_drew BK4.out)
        have BK7b := Aside0.mk (blk_drew BK7.out)
        have HGb := Aside0.mk HG.out.drew
        have HGRb := Aside0.mk (gb_below HGR.out (below_drew1 (Below.refl _ _)))
        clear BK4 BK7 HG HGR
        refine start_ (n := 7) (S := fun w' => w'.cell? ⟨g, 2, none⟩ = some (.map (some bm)) ∧ w'.cell? ⟨g7, 0, none⟩ = some (.bool qx) ∧ w'.cell? ⟨g7, 1, none⟩ = some (.int .i64 qy) ∧ w'.cell? ⟨g7, 2, none⟩ = some (.int .i64 qz)) (ds := []) #[false, false, false, false, false, false, false] (by kernel_rfl) rfl rfl ⟨(blk_cell HGb.out.game 2).trans rfl, (blk_cell BK7b.out 0).trans rfl, (blk_cell BK7b.out 1).trans rfl, (blk_cell BK7b.out 2).trans rfl⟩ (fun hHeld => ?_)
        generalize wr.drew = w6 at BK4b BK7b HGb HGRb hHeld ⊢
        refine pure_ (i := 0) (N := some 79) (v := ?_) (a' := ?_) #[true, false, false, false, false, false, false] rfl rfl (by kernel_rfl) (fun _ _ _ h => h) (Or.inl ⟨by rfl, ?_⟩) ?_ ?_
        rotate_left
        · intro w'
          go_simp
          with_reducible rfl
        rotate_left
        · simp only [Act.put, List.setIfInBounds_toArray, List.set_cons_zero, List.set_cons_succ, i64_w, i32_w]
          rfl
        refine pure_ (i := 1) (N := some 80) (v := ?_) (a' := ?_) #[true, true, false, false, false, false, false] rfl rfl (by kernel_rfl) (fun _ _ _ h => h) (Or.inl ⟨by rfl, ?_⟩) ?_ ?_
        rotate_left
        · intro w'
          go_simp
          with_reducible rfl
        rotate_left
        · simp only [Act.put, List.setIfInBounds_toArray, List.set_cons_zero, List.set_cons_succ, i64_w, i32_w]
          rfl
        refine pure_ (i := 2) (N := some 81) (v := ?_) (a' := ?_) #[true, true, true, false, false, false, false] rfl rfl (by kernel_rfl) (fun _ _ _ h => h) (Or.inl ⟨by rfl, ?_⟩) ?_ ?_
        rotate_left
        · intro w'
          go_simp
          with_reducible rfl
        rotate_left
        · simp only [Act.put, List.setIfInBounds_toArray, List.set_cons_zero, List.set_cons_succ, i64_w, i32_w]
          rfl
        refine take_ (i := 3) (N := some 82) (v := ?_) (a' := ?_) #[true, true, true, true, false, false, false] rfl rfl (by kernel_rfl) (fun _ _ _ h => h) (Or.inl ⟨by rfl, ?_⟩) hHeld ?_ ?_
        rotate_left
        · rintro w' ⟨s0, s1, s2, s3⟩
          go_simp
          with_reducible rfl
        rotate_left
        · simp only [Act.put, List.setIfInBounds_toArray, List.set_cons_zero, List.set_cons_succ, i64_w, i32_w]
          rfl
        refine pure_ (i := 4) (N := some 83) (v := ?_) (a' := ?_) #[true, true, true, true, true, false, false] rfl rfl (by kernel_rfl) (fun _ _ _ h => h) (Or.inl ⟨by rfl, ?_⟩) ?_ ?_
        rotate_left
        · intro w'
          go_simp
          with_reducible rfl
        rotate_left
        · simp only [Act.put, List.setIfInBounds_toArray, List.set_cons_zero, List.set_cons_succ, i64_w, i32_w]
          rfl
        refine take_ (i := 5) (N := some 84) (v := ?_) (a' := ?_) #[true, true, true, true, true, true, false] rfl rfl (by kernel_rfl) (fun _ _ _ h => h) (Or.inl ⟨by rfl, ?_⟩) hHeld ?_ ?_
        rotate_left
        · rintro w' ⟨s0, s1, s2, s3⟩
          go_simp
          with_reducible rfl
        rotate_left
        · simp only [Act.put, List.setIfInBounds_toArray, List.set_cons_zero, List.set_cons_succ, i64_w, i32_w]
          rfl
        obtain ⟨w8, hrun, hg8, hgr8⟩ := HGb.out.put HSU.out HS4.out HO.out
        refine one_ (i := 6) (N := none) #[true, true, true, true, true, true, true] rfl rfl (by kernel_rfl) (by decide) (fun K hK => ?_)
        refine upd_step (by rfl) rfl rfl rfl rfl rfl hrun ?_
        have BK4c := Aside0.mk (gb_far BK4b.out hgr8 (Nat.ne_of_gt (Nat.lt_of_lt_of_le HBM.out G4.out)))
        have BK7c := Aside0.mk (gb_far BK7b.out hgr8 (Nat.ne_of_gt (Nat.lt_of_lt_of_le HBM.out G7.out)))
        have HGRc := Aside0.mk (World.grownBy.trans HGRb.out hgr8)
        have HGc := Aside0.mk hg8
        clear BK4b BK7b HGRb HGb hg8 hgr8 hrun
        refine hK.out _ _ ⟨(blk_cell HGc.out.game 2).trans rfl, (blk_cell BK7c.out 0).trans rfl, (blk_cell BK7c.out 1).trans rfl, (blk_cell BK7c.out 2).trans rfl⟩ (fun hHeld => ?_)
        clear hK K
        refine done_ (by kernel_rfl) ?_
        have BK4 := BK4c
        have BK7 := BK7c
        have HGR := HGRc
        have HG := HGc
        clear BK4c BK7c HGRc HGc
        have hx7_0 : w8.cell? ⟨g7, 0, none⟩ = some (.bool qx) := (blk_cell BK7.out 0).trans rfl
        have hx7_1 : w8.cell? ⟨g7, 1, none⟩ = some (.int .i64 qy) := (blk_cell BK7.out 1).trans rfl
        have hx7_2 : w8.cell? ⟨g7, 2, none⟩ = some (.int .i64 qz) := (blk_cell BK7.out 2).trans rfl
        go_wp2_with (first | ((with_reducible refine out_store (gp := g4) (x := qx) (y := qy) (z := qz) ?hgd 4 ?hd (c0 := .bool false) (c1 := .int .i64 0) (c2 := .int .i64 0) (t := 60) ?hb (fun hc0 hc1 hc2 hf0 hf1 hf2 => ?hr) ?_); (case hd => exact ⟨_, _, rfl⟩); (case hgd => rfl); (case hb => exact (by (with_reducible repeat (first | refine blk_drewN ?_ _ | refine blk_drew ?_ | refine blk_alloc ?_ _)); exact BK4.out)); (case hr => first | (go_simp; done) | (go_simp; rfl)); intro w5 hbox hgr; have n0_ := Aside0.mk (HG.out.far hgr (Nat.ne_of_lt (Nat.lt_of_lt_of_le HGL.out G4.out)) (Nat.ne_of_lt (Nat.lt_of_lt_of_le HBM.out G4.out)) (Nat.le_trans HW0.out G4.out)); have n1_ := Aside0.mk (gb_own HGR.out hgr G4.out); clear HG HGR BK4 ; have HG := n0_; have HGR := n1_; have BK4 := Aside0.mk hbox; clear n0_ n1_ hbox hgr ))
        refine bodyPost_ret (results_single rfl (.cell g4 60 #[.bool qx, .int .i64 qy, .int .i64 qz] (0, 0) _ rfl (by (with_reducible repeat (first | refine blk_drewN ?_ _ | refine blk_drew ?_ | refine blk_alloc ?_ _)); exact BK4.out) Try.underlying60 rfl (by kernel_rfl) .nil)) rfl ?_
        exact ⟨rfl, HG.out, HGR.out⟩
theorem best_at {w0 : World} {A0 : Option Addr} {c0 : Nat} {a : Int} {l : List Int} {g bm : Nat} (hsu : Setup w0 A0 c0 a l g bm) : ∀ k, BestAt w0 A0 c0 a l g bm k
  | 0 => fun _ _ _ _ h _ => by cases h
  | k + 1 => best_step hsu k (best_at hsu k)


end Go.Proofs.Ytnmhokkkjpjmeaa.B
