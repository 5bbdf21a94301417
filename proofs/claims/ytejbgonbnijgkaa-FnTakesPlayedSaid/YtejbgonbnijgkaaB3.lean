/- The walks of functions of the given program and of its reference: each call of the machine returns what the plain Lean function of the same name says. Conditions: those in each statement. (Written by this session's program over the kit's print.) -/
import Derived.Test.YtejbgonbnijgkaaB0
import Derived.Test.YtejbgonbnijgkaaB1
import Derived.Test.YtejbgonbnijgkaaB2
namespace Go.Proofs.Ytejbgonbnijgkaa.B
open Go.RowKit Go.Proofs.YtejbgonbnijgkaaW.PrintWords Go.Proofs.YtejbgonbnijgkaaW.PrintLast Go.Proofs.YtejbgonbnijgkaaW.PrintMore
attribute [local go_sem] max2_int min2_int max_two min_two max_three min_three max_four min_four   -- for this text's walks alone
set_option linter.unusedVariables false
set_option linter.unusedSimpArgs false

/-! ### spec_gaNew: function 117 -/
/-- the reference's taking game: what is worked out for a set from the sets with one rung less -/
def nwStep (hs : List Bool) (ls : List Int) (s i : Nat) (q : Int × Int) : Int × Int :=
  if s / 2 ^ i % 2 = 0 then q
  else if hs.getD (s - 2 ^ i) false = true then (1, q.2)
  else if ls.getD (s - 2 ^ i) 0 < 0 ∧ (q.1 = 0 ∨ wrap64 (1 - ls.getD (s - 2 ^ i) 0) < q.1) then (wrap64 (1 - ls.getD (s - 2 ^ i) 0), q.2)
  else if 0 < ls.getD (s - 2 ^ i) 0 then (q.1, if q.2 > wrap64 (1 + ls.getD (s - 2 ^ i) 0) then q.2 else wrap64 (1 + ls.getD (s - 2 ^ i) 0)) else q
def nwIn (hs : List Bool) (ls : List Int) (s : Nat) : Nat → Nat → Int × Int → Int × Int
  | 0, _, q => q
  | d + 1, i, q => nwIn hs ls s d (i + 1) (nwStep hs ls s i q)
def nwEnd (q : Int × Int) : Int := if q.1 = 0 then wrap64 (-q.2) else q.1
def nwGo (hm : Nat → Option Bool) (n : Nat) : Nat → Nat → List Bool → List Int → Option (List Bool × List Int)
  | 0, _, hs, ls => some (hs, ls)
  | d + 1, s, hs, ls => (hm s).bind fun b => if b = true then nwGo hm n d (s + 1) (hs.set s true) ls else nwGo hm n d (s + 1) (hs.set s false) (ls.set s (nwEnd (nwIn (hs.set s false) ls s n 0 (0, 0))))
theorem nwGo_mono {hm hm' : Nat → Option Bool} (h : ∀ s, LeO (hm s) (hm' s)) (n : Nat) : ∀ d s hs ls, LeO (nwGo hm n d s hs ls) (nwGo hm' n d s hs ls)
  | 0, _, _, _ => LeO.refl _
  | d + 1, s, hs, ls => LeO.bind (h s) fun _ => LeO.ite (nwGo_mono h n d _ _ _) (nwGo_mono h n d _ _ _)
def nwHome (k : Nat) (a : Int) (l : List Int) (s : Nat) : Option Bool := (spec_gaLeft.f k a l (s : Int)).bind fun lf => spec_gaHome.f k a lf
theorem nwHome_mono (k : Nat) (a : Int) (l : List Int) (s : Nat) : LeO (nwHome k a l s) (nwHome (k + 1) a l s) := LeO.bind (spec_gaLeft.mono _ _ _ _) fun _ => spec_gaHome.mono _ _ _
def gaNewF (k : Nat) (a : Int) (l : List Int) : Option (List Bool × List Int) := if l.length ≤ 12 then nwGo (nwHome k a l) l.length (2 ^ l.length) 0 (List.replicate (2 ^ l.length) false) (List.replicate (2 ^ l.length) 0) else none
theorem gaNewF_mono (k : Nat) (a : Int) (l : List Int) : LeO (gaNewF k a l) (gaNewF (k + 1) a l) := LeO.ite (nwGo_mono (nwHome_mono k a l) _ _ _ _ _) (LeO.refl _)
/-- the reference's game in memory -/
theorem clrI_all : (List.range 12).all (fun t => (List.range 4096).all (fun s => s / 2 ^ t % 2 == 0 || decide (Go.bits .andNot .i64 (s : Int) (wrap64 (2 ^ t)) = ((s - 2 ^ t : Nat) : Int)))) = true := by decide +kernel
theorem clrI_eq (s t : Nat) (hs : s < 4096) (ht : t < 12) (h : ¬ s / 2 ^ t % 2 = 0) : Go.bits .andNot .i64 (s : Int) (wrap64 (2 ^ t)) = ((s - 2 ^ t : Nat) : Int) := by
  have h1 := List.all_eq_true.1 (List.all_eq_true.1 clrI_all t (by simpa using ht)) s (by simpa using hs)
  rw [Bool.or_eq_true] at h1
  rcases h1 with h1 | h1
  · exact absurd (by simpa using h1) h
  · exact of_decide_eq_true h1
def GaB (A : Option Addr) (c : Nat) (a : Int) (l : List Int) (g gh gl N : Nat) (hs : List Bool) (ls : List Int) (w : World) : Prop :=
  w.heap[g]? = some (.cells #[.int .i64 a, .slice A l.length c, .slice (some ⟨gh, 0, none⟩) N N, .slice (some ⟨gl, 0, none⟩) N N] 100 (0, 0)) ∧ w.heap[gh]? = some (.cells (hs.map Value.bool).toArray 4 (0, 0)) ∧ w.heap[gl]? = some (.cells (ls.map (Value.int .i64)).toArray 3 (0, 0)) ∧ hs.length = N ∧ ls.length = N
section
variable {w w1 : World} {A : Option Addr} {c : Nat} {a : Int} {l : List Int} {g gh gl N : Nat} {hs : List Bool} {ls : List Int}
theorem GaB.below (h : GaB A c a l g gh gl N hs ls w) (hb : Below w.heap.size w w1) : GaB A c a l g gh gl N hs ls w1 := ⟨blk_below h.1 hb, blk_below h.2.1 hb, blk_below h.2.2.1 hb, h.2.2.2⟩
theorem GaB.drew (h : GaB A c a l g gh gl N hs ls w) : GaB A c a l g gh gl N hs ls w.drew := h
theorem GaB.drewN (h : GaB A c a l g gh gl N hs ls w) (q : Nat) : GaB A c a l g gh gl N hs ls (w.drewN q) := h
theorem GaB.putH (h : GaB A c a l g gh gl N hs ls w) (i : Nat) (b : Bool) : GaB A c a l g gh gl N (hs.set i b) ls (w.setCell ⟨gh, i, none⟩ (.bool b)) :=
  ⟨blk_far h.1 (p := ⟨gh, i, none⟩) (blk_ne h.1 h.2.1 (by decide)) _, blk_put h.2.1 i _ (by simp [List.map_set]), blk_far h.2.2.1 (p := ⟨gh, i, none⟩) (blk_ne h.2.2.1 h.2.1 (by decide)) _, by rw [List.length_set]; exact h.2.2.2.1, h.2.2.2.2⟩
theorem GaB.putL (h : GaB A c a l g gh gl N hs ls w) (i : Nat) (x : Int) : GaB A c a l g gh gl N hs (ls.set i x) (w.setCell ⟨gl, i, none⟩ (.int .i64 x)) :=
  ⟨blk_far h.1 (p := ⟨gl, i, none⟩) (blk_ne h.1 h.2.2.1 (by decide)) _, blk_far h.2.1 (p := ⟨gl, i, none⟩) (blk_ne h.2.1 h.2.2.1 (by decide)) _, blk_put h.2.2.1 i _ (by simp [List.map_set]), h.2.2.2.1, by rw [List.length_set]; exact h.2.2.2.2⟩
theorem GaB.atH (h : GaB A c a l g gh gl N hs ls w) (i : Nat) (hi : i < N) : w.cell? ⟨gh, i, none⟩ = some (.bool (hs.getD i false)) := by
  have hl := h.2.2.2.1
  rw [blk_cell h.2.1 i, List.getElem?_toArray, List.getElem?_map, List.getD_eq_getElem?_getD, List.getElem?_eq_getElem (by omega)]; rfl
theorem GaB.atL (h : GaB A c a l g gh gl N hs ls w) (i : Nat) (hi : i < N) : w.cell? ⟨gl, i, none⟩ = some (.int .i64 (ls.getD i 0)) := by
  have hl := h.2.2.2.2
  rw [blk_cell h.2.2.1 i, List.getElem?_toArray, List.getElem?_map, List.getD_eq_getElem?_getD, List.getElem?_eq_getElem (by omega)]; rfl
end
theorem GaB.grown {w w1 : World} {A : Option Addr} {c : Nat} {a : Int} {l : List Int} {g gh gl N : Nat} {hs : List Bool} {ls : List Int} {row : Option Nat} (h : GaB A c a l g gh gl N hs ls w) (hg : w.grownBy w1 row) (hr : ∀ k, row = some k → k ≠ g ∧ k ≠ gh ∧ k ≠ gl) : GaB A c a l g gh gl N hs ls w1 :=
  ⟨blk_grown h.1 hg (fun e => (hr g e.symm).1 rfl), blk_grown h.2.1 hg (fun e => (hr gh e.symm).2.1 rfl), blk_grown h.2.2.1 hg (fun e => (hr gl e.symm).2.2 rfl), h.2.2.2⟩
theorem made_one (z : Value) (hz : z.cells = #[z]) (m : Nat) : (madeCells z.cells (m * 1)) = (List.replicate m z).toArray := by
  apply Array.ext
  · simp [size_madeCells]
  · intro i h1 h2
    simp [madeCells, hz, Nat.mod_one]
theorem make_run {P : Program} (W : World) (t e : TypeId) (z : Value) (bytes : Nat) (N : Nat) (ht : P.underlying t = some (.slice e)) (hinfo : (P.info? e).map (fun i => (i.zero, i.size, i.bytes)) = some (some z, 1, bytes)) (hz : z.cells = #[z]) (hb : bytes * N ≤ 281474976710656) (hN : N ≤ 9223372036854775807) :
    (Instr.makeSlice t (.int .i64 (N : Int)) (.int .i64 (N : Int))).run P W = .ok (.slice (some ⟨W.heap.size, 0, none⟩) N N) (W.alloc (.cells (List.replicate N z).toArray e (0, 0))) := by
  obtain ⟨i0, hi, hzz⟩ := Option.map_eq_some_iff.1 hinfo
  simp only [Prod.mk.injEq] at hzz
  obtain ⟨hz0, hz1, hz2⟩ := hzz
  have h4 : (i0.bytes : Int) * (N : Int) ≤ 281474976710656 := by
    have h3 : ((i0.bytes * N : Nat) : Int) ≤ 281474976710656 := by rw [hz2]; omega
    rwa [Int.natCast_mul] at h3
  have hr := run_make (P := P) W t e i0 z ht hi hz0 .i64 .i64 (N : Int) (N : Int) (by omega) (by omega) h4 (by omega)
  simp only [Int.toNat_natCast] at hr
  rw [hz1, made_one z hz] at hr
  exact hr
theorem infoBool_ : (Try.prog.info? 4).map (fun i => (i.zero, i.size, i.bytes)) = some (some (.bool false), 1, 1) := by kernel_rfl
set_option maxHeartbeats 4000000 in
set_option maxRecDepth 100000 in
theorem gaNew_calls (k : Nat) (a : Int) (A0 : Option Addr) (c0 : Nat) (l : List Int) (hs : List Bool) (ls : List Int) (w : World) (hr : Kd.C (Kd.int .i64) w A0 l.length l) (hc : l.length ≤ c0) (h : gaNewF k a l = some (hs, ls)) :
    Calls Try.prog 117 #[.agg #[.int .i64 a, .slice A0 l.length c0]] w fun e w' => ∃ g gh gl, e = .returned (.pointer (some ⟨g, 0, none⟩)) ∧ GaB A0 c0 a l g gh gl (2 ^ l.length) hs ls w' ∧ Below w.heap.size w w' := by
  have hu28 := Try.underlying26
  have hu58 := Try.underlying100
  have HR := Aside0.mk hr
  have HC := Aside0.mk hc
  have HB := Aside0.mk (Below.refl w.heap.size w)
  unfold gaNewF at h
  by_cases hn : l.length ≤ 12
  case neg => rw [if_neg hn] at h; cases h
  rw [if_pos hn] at h
  obtain ⟨N, hN⟩ : ∃ N, N = 2 ^ l.length := ⟨_, rfl⟩
  rw [← hN] at h ⊢
  have hN1 : 1 ≤ N := by rw [hN]; exact Nat.one_le_two_pow
  have hN2 : N ≤ 4096 := by have h1 := Nat.pow_le_pow_right (n := 2) (by decide) hn; rw [hN]; omega
  have hshl : wrap64 ((2 : Int) ^ min l.length 64) = (N : Int) := by
    have e : ((2 : Int) ^ min l.length 64) = (N : Int) := by rw [Nat.min_eq_left (by omega), hN]; push_cast; rfl
    rw [e]; unfold wrap64; omega
  have HN := Lib.hid hN
  have HN1 := Lib.hid hN1
  have HN2 := Lib.hid hN2
  have HN12 := Lib.hid hn
  have HM := Aside0.mk h
  clear hr hc h hN hN1 hN2 hn
  go_enter Try.func117, Try.ntmps117
  go_wp2_with (first | ((with_reducible refine gate_dst (N := 1) rfl ?_); refine box_event ?hg (N := 1) ?hd (cs := #[.int .i64 a, .slice A0 l.length c0]) (t := 26) ?hr ?_; (case hd => rfl); (case hg => rfl); (case hr => first | (go_simp; done) | (go_simp; rfl)); intro gb hg w1 hbox hb; have n0_ := Aside0.mk (below_step HB.out hb); clear HB; have HB := n0_; clear n0_; have BKL := Aside0.mk hbox; clear hbox hb hg; have hcz0 : w1.cell? ⟨gb, 0, none⟩ = some (.int .i64 a) := (blk_cell BKL.out 0).trans rfl; have hcz1 : w1.cell? ⟨gb, 1, none⟩ = some (.slice A0 l.length c0) := (blk_cell BKL.out 1).trans rfl))
  have BK2 := Aside0.mk (blk_drew BKL.out)
  have HB2 := Aside0.mk (below_drew1 HB.out)
  clear BKL HB hcz0 hcz1
  refine start_ (n := 8) (S := fun w' => w'.cell? ⟨gb, 0, none⟩ = some (.int .i64 a) ∧ w'.cell? ⟨gb, 1, none⟩ = some (.slice A0 l.length c0)) (ds := []) #[false, false, false, false, false, false, false, false] (by kernel_rfl) rfl rfl ⟨(blk_cell BK2.out 0).trans rfl, (blk_cell BK2.out 1).trans rfl⟩ (fun hHeld => ?_)
  generalize w1.drew = w2 at BK2 HB2 hHeld ⊢
  refine take_ (i := 0) (N := some 14) (v := ?_) (a' := ?_) #[true, false, false, false, false, false, false, false] rfl rfl (by kernel_rfl) (fun _ _ _ h => h) (Or.inl ⟨by rfl, ?_⟩) hHeld ?_ ?_
  rotate_left
  · rintro w' ⟨s0, s1⟩
    go_simp
    with_reducible rfl
  rotate_left
  · simp only [Act.put, List.setIfInBounds_toArray, List.set_cons_zero, List.set_cons_succ, i64_w, i32_w]
    rfl
  refine pure_ (i := 1) (N := some 15) (v := ?_) (a' := ?_) #[true, true, false, false, false, false, false, false] rfl rfl (by kernel_rfl) (fun _ _ _ h => h) (Or.inl ⟨by rfl, ?_⟩) ?_ ?_
  rotate_left
  · intro w'
    go_simp
    with_reducible rfl
  rotate_left
  · simp only [Act.put, List.setIfInBounds_toArray, List.set_cons_zero, List.set_cons_succ, i64_w, i32_w]
    rfl
  refine pure_ (i := 3) (N := some 17) (v := ?_) (a' := ?_) #[true, true, false, true, false, false, false, false] rfl rfl (by kernel_rfl) (fun _ _ _ h => h) (Or.inl ⟨by rfl, ?_⟩) ?_ ?_
  rotate_left
  · intro w'
    go_simp
    with_reducible rfl
  rotate_left
  · simp only [Act.put, List.setIfInBounds_toArray, List.set_cons_zero, List.set_cons_succ, i64_w, i32_w]
    rfl
  have hmk4 := fun W : World => make_run (P := Try.prog) W 82 4 (.bool false) 1 N Try.underlying82 infoBool_ rfl (by have := HN2.out; omega) (by have := HN2.out; omega)
  have hmk3 := fun W : World => make_run (P := Try.prog) W 24 3 (.int .i64 0) 8 N Try.underlying24 info3 rfl (by have := HN2.out; omega) (by have := HN2.out; omega)
  refine join_ (σ := Nat × Nat) 3 #[true, true, true, true, true, false, false, false] (fun s => [(16, .slice (some ⟨s.1, 0, none⟩) N N), (18, .slice (some ⟨s.2, 0, none⟩) N N)]) (fun s w' => Below w.heap.size w w' ∧ w'.heap[gb]? = some (.cells #[.int .i64 a, .slice A0 l.length c0] 26 (0, 0)) ∧ w'.heap[s.1]? = some (.cells (List.replicate N (Value.bool false)).toArray 4 (0, 0)) ∧ w'.heap[s.2]? = some (.cells (List.replicate N (Value.int .i64 0)).toArray 3 (0, 0)) ∧ w.heap.size ≤ s.1 ∧ w.heap.size ≤ s.2) (fun s w3 hF => ?_) (fun hJ => ?_)
  rotate_left
  · refine two_ (i := 2) (j := 4) (Ni := some 16) (Nj := some 18) #[true, true, true, true, false, false, false, false] #[true, true, false, true, true, false, false, false] rfl rfl rfl rfl (by kernel_rfl) (by decide) (by decide) (fun K hK => ?_) (fun K hK => ?_)
    · refine event_step (by rfl) (v := .slice (some ⟨w2.heap.size, 0, none⟩) N N) (w1 := w2.alloc (.cells (List.replicate N (Value.bool false)).toArray 4 (0, 0))) (by go_simp) ?_
      have BK3 := Aside0.mk (blk_alloc BK2.out (.cells (List.replicate N (Value.bool false)).toArray 4 (0, 0)))
      have HB3 := Aside0.mk (below_alloc HB2.out (.cells (List.replicate N (Value.bool false)).toArray 4 (0, 0)))
      have HX3 := Aside0.mk (blk_new w2 (.cells (List.replicate N (Value.bool false)).toArray 4 (0, 0)))
      have HZ3 := Aside0.mk (below_size HB2.out)
      generalize w2.alloc (.cells (List.replicate N (Value.bool false)).toArray 4 (0, 0)) = w3 at BK3 HB3 HX3 ⊢
      generalize w2.heap.size = gh at HX3 HZ3 ⊢
      clear BK2 HB2
      refine hK.out _ _ ⟨(blk_cell BK3.out 0).trans rfl, (blk_cell BK3.out 1).trans rfl⟩ (fun hHeld => ?_)
      clear hK K
      refine norm_ (a' := ?_) ?_ ?_
      rotate_left
      · show Act.put _ (some 16) _ = _
        simp only [Act.put, List.setIfInBounds_toArray, List.set_cons_zero, List.set_cons_succ, i64_w, i32_w]
        rfl
      refine one_ (i := 4) (N := some 18) #[true, true, true, true, true, false, false, false] rfl rfl (by kernel_rfl) (by decide) (fun K hK => ?_)
      refine event_step (by rfl) (v := .slice (some ⟨w3.heap.size, 0, none⟩) N N) (w1 := w3.alloc (.cells (List.replicate N (Value.int .i64 0)).toArray 3 (0, 0))) (by go_simp) ?_
      have BK4 := Aside0.mk (blk_alloc BK3.out (.cells (List.replicate N (Value.int .i64 0)).toArray 3 (0, 0)))
      have HB4 := Aside0.mk (below_alloc HB3.out (.cells (List.replicate N (Value.int .i64 0)).toArray 3 (0, 0)))
      have HX4 := Aside0.mk (blk_alloc HX3.out (.cells (List.replicate N (Value.int .i64 0)).toArray 3 (0, 0)))
      have HY4 := Aside0.mk (blk_new w3 (.cells (List.replicate N (Value.int .i64 0)).toArray 3 (0, 0)))
      have HZ4 := Aside0.mk (below_size HB3.out)
      refine hK.out _ _ ⟨(blk_cell BK4.out 0).trans rfl, (blk_cell BK4.out 1).trans rfl⟩ (fun hHeld => ?_)
      clear hK K
      have hj := hJ (gh, w3.heap.size) _ ⟨HB4.out, BK4.out, HX4.out, HY4.out, HZ3.out, HZ4.out⟩
      simp only [putAll, Act.put, List.setIfInBounds_toArray, List.set_cons_zero, List.set_cons_succ] at hj
      simp only [Act.put, List.setIfInBounds_toArray, List.set_cons_zero, List.set_cons_succ]
      exact hj
    · refine event_step (by rfl) (v := .slice (some ⟨w2.heap.size, 0, none⟩) N N) (w1 := w2.alloc (.cells (List.replicate N (Value.int .i64 0)).toArray 3 (0, 0))) (by go_simp) ?_
      have BK3 := Aside0.mk (blk_alloc BK2.out (.cells (List.replicate N (Value.int .i64 0)).toArray 3 (0, 0)))
      have HB3 := Aside0.mk (below_alloc HB2.out (.cells (List.replicate N (Value.int .i64 0)).toArray 3 (0, 0)))
      have HX3 := Aside0.mk (blk_new w2 (.cells (List.replicate N (Value.int .i64 0)).toArray 3 (0, 0)))
      have HZ3 := Aside0.mk (below_size HB2.out)
      generalize w2.alloc (.cells (List.replicate N (Value.int .i64 0)).toArray 3 (0, 0)) = w3 at BK3 HB3 HX3 ⊢
      generalize w2.heap.size = gl at HX3 HZ3 ⊢
      clear BK2 HB2
      refine hK.out _ _ ⟨(blk_cell BK3.out 0).trans rfl, (blk_cell BK3.out 1).trans rfl⟩ (fun hHeld => ?_)
      clear hK K
      refine norm_ (a' := ?_) ?_ ?_
      rotate_left
      · show Act.put _ (some 18) _ = _
        simp only [Act.put, List.setIfInBounds_toArray, List.set_cons_zero, List.set_cons_succ, i64_w, i32_w]
        rfl
      refine one_ (i := 2) (N := some 16) #[true, true, true, true, true, false, false, false] rfl rfl (by kernel_rfl) (by decide) (fun K hK => ?_)
      refine event_step (by rfl) (v := .slice (some ⟨w3.heap.size, 0, none⟩) N N) (w1 := w3.alloc (.cells (List.replicate N (Value.bool false)).toArray 4 (0, 0))) (by go_simp) ?_
      have BK4 := Aside0.mk (blk_alloc BK3.out (.cells (List.replicate N (Value.bool false)).toArray 4 (0, 0)))
      have HB4 := Aside0.mk (below_alloc HB3.out (.cells (List.replicate N (Value.bool false)).toArray 4 (0, 0)))
      have HX4 := Aside0.mk (blk_alloc HX3.out (.cells (List.replicate N (Value.bool false)).toArray 4 (0, 0)))
      have HY4 := Aside0.mk (blk_new w3 (.cells (List.replicate N (Value.bool false)).toArray 4 (0, 0)))
      have HZ4 := Aside0.mk (below_size HB3.out)
      refine hK.out _ _ ⟨(blk_cell BK4.out 0).trans rfl, (blk_cell BK4.out 1).trans rfl⟩ (fun hHeld => ?_)
      clear hK K
      have hj := hJ (w3.heap.size, gl) _ ⟨HB4.out, BK4.out, HY4.out, HX4.out, HZ4.out, HZ3.out⟩
      simp only [putAll, Act.put, List.setIfInBounds_toArray, List.set_cons_zero, List.set_cons_succ] at hj
      simp only [Act.put, List.setIfInBounds_toArray, List.set_cons_zero, List.set_cons_succ]
      exact hj
  · obtain ⟨gh, gl⟩ := s
    obtain ⟨hb3, hbk3, hh3, hl3, hzh, hzl⟩ := hF
    have HB3 := Aside0.mk hb3
    have BK3 := Aside0.mk hbk3
    have HH3 := Aside0.mk hh3
    have HL3 := Aside0.mk hl3
    have ZH := Aside0.mk hzh
    have ZL := Aside0.mk hzl
    clear hb3 hbk3 hh3 hl3 hzh hzl BK2 HB2 hHeld hmk4 hmk3
    simp only [putAll, Act.put, List.setIfInBounds_toArray, List.set_cons_zero, List.set_cons_succ]
    refine pure_ (i := 5) (N := some 19) (v := ?_) (a' := ?_) #[true, true, true, true, true, true, false, false] rfl rfl (by kernel_rfl) (fun _ _ _ h => h) (Or.inl ⟨by rfl, ?_⟩) ?_ ?_
    rotate_left
    · intro w'
      go_simp
      with_reducible rfl
    rotate_left
    · simp only [Act.put, List.setIfInBounds_toArray, List.set_cons_zero, List.set_cons_succ, i64_w, i32_w]
      rfl
    refine one_ (i := 6) (N := some 20) #[true, true, true, true, true, true, true, false] rfl rfl (by kernel_rfl) (by decide) (fun K hK => ?_)
    refine box_step (by rfl) (N := 20) rfl (cs := #[.int .i64 a, .slice A0 l.length c0, .slice (some ⟨gh, 0, none⟩) N N, .slice (some ⟨gl, 0, none⟩) N N]) (t := 100) (by first | (go_simp; done) | (go_simp; rfl)) ?_
    intro g hg w4 hbox hb
    have BK4 := Aside0.mk (blk_below BK3.out hb)
    have HB4 := Aside0.mk (below_step HB3.out hb)
    have HG := Aside0.mk (show GaB A0 c0 a l g gh gl N (List.replicate N false) (List.replicate N 0) w4 from ⟨hbox, by rw [List.map_replicate]; exact blk_below HH3.out hb, by rw [List.map_replicate]; exact blk_below HL3.out hb, List.length_replicate, List.length_replicate⟩)
    have ZG := Aside0.mk (show w.heap.size ≤ g by rw [hg]; exact HB3.out.size)
    clear BK3 HB3 HH3 HL3 hbox hb hg
    refine hK.out _ _ ⟨(blk_cell BK4.out 0).trans rfl, (blk_cell BK4.out 1).trans rfl⟩ (fun hHeld => ?_)
    clear hK K
    refine norm_ (a' := ?_) ?_ ?_
    rotate_left
    · show Act.put _ (some 20) _ = _
      simp only [Act.put, List.setIfInBounds_toArray, List.set_cons_zero, List.set_cons_succ, i64_w, i32_w]
      rfl
    refine pure_ (i := 7) (N := some 4) (v := ?_) (a' := ?_) #[true, true, true, true, true, true, true, true] rfl rfl (by kernel_rfl) (fun _ _ _ h => h) (Or.inl ⟨by rfl, ?_⟩) ?_ ?_
    rotate_left
    · intro w'
      go_simp
      with_reducible rfl
    rotate_left
    · simp only [Act.put, List.setIfInBounds_toArray, List.set_cons_zero, List.set_cons_succ, i64_w, i32_w]
      rfl
    refine done_ (by kernel_rfl) ?_
    clear hHeld
    go_wp2
    go_loopg [5] N (fun gg v5 wr => ∃ (d s : Nat) (hs1 : List Bool) (ls1 : List Int), d ≤ gg ∧ s + d = N ∧ v5 = .int .i64 (s : Int) ∧ Aside0 (nwGo (nwHome k a l) l.length d s hs1 ls1 = some (hs, ls)) ∧ Aside0 (GaB A0 c0 a l g gh gl N hs1 ls1 wr) ∧ Aside0 (wr.heap[gb]? = some (.cells #[.int .i64 a, .slice A0 l.length c0] 26 (0, 0))) ∧ Aside0 (Below w.heap.size w wr))
    case atStart => exact ⟨N, 0, _, _, Nat.le_refl _, Nat.zero_add _, rfl, HM, HG, BK4, HB4⟩
    case round =>
      clear HG BK4 HB4 HM
      obtain ⟨d, s, hs1, ls1, hgg, hsd, rfl, HM, HG, BK, HB⟩ := hrel
      cases d with
      | zero =>
        have d1 : decide (s < N) = false := decide_eq_false (by omega)
        have hm := HM.out
        rw [nwGo] at hm
        injection hm with hm
        injection hm with hm1 hm2
        subst hm1 hm2
        clear hgg hsd
        go_wp2
        go_ret
        exact ⟨g, gh, gl, rfl, HG.out, HB.out⟩
      | succ d =>
        have hsN : s < N := by omega
        have d1 : decide (s < N) = true := decide_eq_true (by omega)
        have hm := HM.out
        rw [nwGo] at hm
        replace hm := Option.bind_eq_some_iff.mp hm
        obtain ⟨b, hb, hm⟩ := hm
        unfold nwHome at hb
        replace hb := Option.bind_eq_some_iff.mp hb
        obtain ⟨lf, hlf, hhm⟩ := hb
        have HLF := Aside0.mk hlf
        have HHM := Aside0.mk hhm
        have HSN := Lib.hid hsN
        have HGG := Lib.hid hgg
        have HSD := Lib.hid hsd
        have HWI := Lib.hid (show wrap64 ((s : Int) + 1) = ((s + 1 : Nat) : Int) by have := HN2.out; unfold wrap64; omega)
        clear hlf hhm hsN hgg hsd HM
        go_wp2
        have BK2 := Aside0.mk (blk_drew BK.out)
        have HB2 := Aside0.mk (below_drew1 HB.out)
        have HG2 := Aside0.mk HG.out.drew
        clear BK HB HG
        refine start_ (n := 13) (S := fun w' => w'.cell? ⟨g, 2, none⟩ = some (.slice (some ⟨gh, 0, none⟩) N N) ∧ w'.cell? ⟨gb, 0, none⟩ = some (.int .i64 a) ∧ w'.cell? ⟨gb, 1, none⟩ = some (.slice A0 l.length c0)) (ds := []) #[false, false, false, false, false, false, false, false, false, false, false, false, false] (by kernel_rfl) rfl rfl ⟨(blk_cell HG2.out.1 2).trans rfl, (blk_cell BK2.out 0).trans rfl, (blk_cell BK2.out 1).trans rfl⟩ (fun hHeld => ?_)
        generalize wr.drew = w5 at BK2 HB2 HG2 hHeld ⊢
        refine pure_ (i := 0) (N := some 26) (v := ?_) (a' := ?_) #[true, false, false, false, false, false, false, false, false, false, false, false, false] rfl rfl (by kernel_rfl) (fun _ _ _ h => h) (Or.inl ⟨by rfl, ?_⟩) ?_ ?_
        rotate_left
        · intro w'
          go_simp
          with_reducible rfl
        rotate_left
        · simp only [Act.put, List.setIfInBounds_toArray, List.set_cons_zero, List.set_cons_succ, i64_w, i32_w]
          rfl
        refine pure_ (i := 1) (N := some 27) (v := ?_) (a' := ?_) #[true, true, false, false, false, false, false, false, false, false, false, false, false] rfl rfl (by kernel_rfl) (fun _ _ _ h => h) (Or.inl ⟨by rfl, ?_⟩) ?_ ?_
        rotate_left
        · intro w'
          go_simp
          with_reducible rfl
        rotate_left
        · simp only [Act.put, List.setIfInBounds_toArray, List.set_cons_zero, List.set_cons_succ, i64_w, i32_w]
          rfl
        refine pure_ (i := 2) (N := some 28) (v := ?_) (a' := ?_) #[true, true, true, false, false, false, false, false, false, false, false, false, false] rfl rfl (by kernel_rfl) (fun _ _ _ h => h) (Or.inl ⟨by rfl, ?_⟩) ?_ ?_
        rotate_left
        · intro w'
          go_simp
          with_reducible rfl
        rotate_left
        · simp only [Act.put, List.setIfInBounds_toArray, List.set_cons_zero, List.set_cons_succ, i64_w, i32_w]
          rfl
        refine take_ (i := 3) (N := some 29) (v := ?_) (a' := ?_) #[true, true, true, true, false, false, false, false, false, false, false, false, false] rfl rfl (by kernel_rfl) (fun _ _ _ h => h) (Or.inl ⟨by rfl, ?_⟩) hHeld ?_ ?_
        rotate_left
        · rintro w' ⟨s0, s1, s2⟩
          go_simp
          with_reducible rfl
        rotate_left
        · simp only [Act.put, List.setIfInBounds_toArray, List.set_cons_zero, List.set_cons_succ, i64_w, i32_w]
          rfl
        refine pure_ (i := 4) (N := some 30) (v := ?_) (a' := ?_) #[true, true, true, true, true, false, false, false, false, false, false, false, false] rfl rfl (by kernel_rfl) (fun _ _ _ h => h) (Or.inl ⟨by rfl, ?_⟩) ?_ ?_
        rotate_left
        · intro w'
          go_simp
          with_reducible rfl
        rotate_left
        · simp only [Act.put, List.setIfInBounds_toArray, List.set_cons_zero, List.set_cons_succ, i64_w, i32_w]
          rfl
        refine pure_ (i := 5) (N := some 31) (v := ?_) (a' := ?_) #[true, true, true, true, true, true, false, false, false, false, false, false, false] rfl rfl (by kernel_rfl) (fun _ _ _ h => h) (Or.inl ⟨by rfl, ?_⟩) ?_ ?_
        rotate_left
        · intro w'
          go_simp
          with_reducible rfl
        rotate_left
        · simp only [Act.put, List.setIfInBounds_toArray, List.set_cons_zero, List.set_cons_succ, i64_w, i32_w]
          rfl
        refine take_ (i := 6) (N := some 32) (v := ?_) (a' := ?_) #[true, true, true, true, true, true, true, false, false, false, false, false, false] rfl rfl (by kernel_rfl) (fun _ _ _ h => h) (Or.inl ⟨by rfl, ?_⟩) hHeld ?_ ?_
        rotate_left
        · rintro w' ⟨s0, s1, s2⟩
          go_simp
          with_reducible rfl
        rotate_left
        · simp only [Act.put, List.setIfInBounds_toArray, List.set_cons_zero, List.set_cons_succ, i64_w, i32_w]
          rfl
        refine take_ (i := 7) (N := some 33) (v := ?_) (a' := ?_) #[true, true, true, true, true, true, true, true, false, false, false, false, false] rfl rfl (by kernel_rfl) (fun _ _ _ h => h) (Or.inl ⟨by rfl, ?_⟩) hHeld ?_ ?_
        rotate_left
        · rintro w' ⟨s0, s1, s2⟩
          go_simp
          with_reducible rfl
        rotate_left
        · simp only [Act.put, List.setIfInBounds_toArray, List.set_cons_zero, List.set_cons_succ, i64_w, i32_w]
          rfl
        refine pure_ (i := 8) (N := some 34) (v := ?_) (a' := ?_) #[true, true, true, true, true, true, true, true, true, false, false, false, false] rfl rfl (by kernel_rfl) (fun _ _ _ h => h) (Or.inl ⟨by rfl, ?_⟩) ?_ ?_
        rotate_left
        · intro w'
          go_simp
          with_reducible rfl
        rotate_left
        · simp only [Act.put, List.setIfInBounds_toArray, List.set_cons_zero, List.set_cons_succ, i64_w, i32_w]
          rfl
        refine one_ (i := 9) (N := some 35) #[true, true, true, true, true, true, true, true, true, true, false, false, false] rfl rfl (by kernel_rfl) (by decide) (fun K hK => ?_)
        refine goes_ Try.func122 (by kernel_rfl) rfl #[.agg #[.int .i64 a, .slice A0 l.length c0], .int .i64 (s : Int)] (by rfl) rfl rfl (by (try simp only [List.map_toArray, List.map_cons, List.map_nil]); first | done | rfl | (simp only [List.length_drop, List.length_take]; rfl)) ?_
        with_reducible refine (spec_gaLeft.calls k a A0 c0 l (s : Int) lf _ (Kd.C_below HR.out HB2.out) HC.out HLF.out).mono ?_
        rintro e w6 ⟨v, rfl, ho, hb⟩
        refine ⟨_, rfl, ?_⟩
        have HG3 := Aside0.mk (HG2.out.below hb)
        have BK3 := Aside0.mk (blk_below BK2.out hb)
        have HB3 := Aside0.mk (below_step HB2.out hb)
        have HO := Aside0.mk ho
        clear HG2 BK2 HB2 ho hb
        obtain ⟨Al, cl, el⟩ := Kd.R_slice HO.out
        subst el
        refine hK.out _ _ ⟨(blk_cell HG3.out.1 2).trans rfl, (blk_cell BK3.out 0).trans rfl, (blk_cell BK3.out 1).trans rfl⟩ (fun hHeld => ?_)
        clear hK K
        refine norm_ (a' := ?_) ?_ ?_
        rotate_left
        · show Act.put _ (some 35) _ = _
          simp only [Act.put, List.setIfInBounds_toArray, List.set_cons_zero, List.set_cons_succ, i64_w, i32_w]
          rfl
        refine one_ (i := 10) (N := some 36) #[true, true, true, true, true, true, true, true, true, true, true, false, false] rfl rfl (by kernel_rfl) (by decide) (fun K hK => ?_)
        refine goes_ Try.func121 (by kernel_rfl) rfl #[.int .i64 a, .slice Al lf.length cl] (by rfl) rfl rfl (by (try simp only [List.map_toArray, List.map_cons, List.map_nil]); first | done | rfl | (simp only [List.length_drop, List.length_take]; rfl)) ?_
        with_reducible refine (spec_gaHome.calls k a _ _ lf b _ (Kd.R_reads' HO.out).2.2 (Kd.R_reads' HO.out).2.1 HHM.out).mono ?_
        rintro e w7 ⟨rfl, hb⟩
        refine ⟨_, rfl, ?_⟩
        have HG4 := Aside0.mk (HG3.out.below hb)
        have BK4 := Aside0.mk (blk_below BK3.out hb)
        have HB4 := Aside0.mk (below_step HB3.out hb)
        clear HG3 BK3 HB3 hb HO
        refine hK.out _ _ ⟨(blk_cell HG4.out.1 2).trans rfl, (blk_cell BK4.out 0).trans rfl, (blk_cell BK4.out 1).trans rfl⟩ (fun hHeld => ?_)
        clear hK K
        refine norm_ (a' := ?_) ?_ ?_
        rotate_left
        · show Act.put _ (some 36) _ = _
          simp only [Act.put, List.setIfInBounds_toArray, List.set_cons_zero, List.set_cons_succ, i64_w, i32_w]
          rfl
        have p1 : 0 ≤ ((s : Nat) : Int) := by omega
        have q1 : ((s : Nat) : Int) < (N : Int) := by have := HSN.out; omega
        replace p1 := eq_true p1
        replace q1 := eq_true q1
        refine pure_ (i := 11) (N := some 37) (v := ?_) (a' := ?_) #[true, true, true, true, true, true, true, true, true, true, true, true, false] rfl rfl (by kernel_rfl) (fun _ _ _ h => h) (Or.inl ⟨by rfl, ?_⟩) ?_ ?_
        rotate_left
        · intro w'
          go_simp
          with_reducible rfl
        rotate_left
        · simp only [Act.put, List.setIfInBounds_toArray, List.set_cons_zero, List.set_cons_succ, i64_w, i32_w]
          rfl
        have hah := HG4.out.atH s HSN.out
        have hfh := blk_frozen HG4.out.2.1 s
        refine one_ (i := 12) (N := none) #[true, true, true, true, true, true, true, true, true, true, true, true, true] rfl rfl (by kernel_rfl) (by decide) (fun K hK => ?_)
        refine skip_stepG (by rfl) rfl (w1 := w7.setCell ⟨gh, s, none⟩ (.bool b)) (by go_simp) ?_
        have HG5 := Aside0.mk (HG4.out.putH s b)
        have BK5 := Aside0.mk (blk_far BK4.out (p := ⟨gh, s, none⟩) (blk_ne BK4.out HG4.out.2.1 (by decide)) (.bool b))
        have HB5 := Aside0.mk (below_set (j := s) (v := .bool b) HB4.out ZH.out)
        clear HG4 BK4 HB4 hah hfh
        refine hK.out _ _ ⟨(blk_cell HG5.out.1 2).trans rfl, (blk_cell BK5.out 0).trans rfl, (blk_cell BK5.out 1).trans rfl⟩ (fun hHeld => ?_)
        clear hK K
        refine done_ (by kernel_rfl) ?_
        generalize w7.setCell ⟨gh, s, none⟩ (.bool b) = w8 at HG5 BK5 HB5 ⊢
        clear hHeld
        have hg2 : w8.cell? ⟨g, 2, none⟩ = some (.slice (some ⟨gh, 0, none⟩) N N) := (blk_cell HG5.out.1 2).trans rfl
        have hbit : w8.cell? ⟨gh, s, none⟩ = some (.bool b) := by
          have h1 := HG5.out.atH s HSN.out
          have h2 := HG5.out.2.2.2.1
          rw [List.length_set] at h2
          rw [List.getD_eq_getElem?_getD, List.getElem?_set_self (by have := HSN.out; omega)] at h1
          exact h1
        cases hb0 : b with
        | true =>
          subst hb0
          rw [if_pos rfl] at hm
          have HM := Aside0.mk hm
          clear hm
          go_wp2
          go_roundg d
          case measure => have := HGG.out; omega
          case rel => exact ⟨d, s + 1, _, _, Nat.le_refl _, by have := HSD.out; omega, by rw [← HWI.out], HM, HG5, BK5, HB5⟩
        | false =>
          subst hb0
          rw [if_neg (by simp)] at hm
          obtain ⟨Q0, hQ0⟩ : ∃ q, q = nwIn (hs1.set s false) ls1 s l.length 0 (0, 0) := ⟨_, rfl⟩
          rw [← hQ0] at hm
          have HM := Aside0.mk hm
          have HQ0 := Aside0.mk hQ0
          obtain ⟨hs2, hhs2⟩ : ∃ x, x = hs1.set s false := ⟨_, rfl⟩
          rw [← hhs2] at HM HQ0 HG5
          clear hm hQ0 hhs2
          have hl1 : w8.cell? ⟨gb, 1, none⟩ = some (.slice A0 l.length c0) := (blk_cell BK5.out 1).trans rfl
          go_wp2
          clear hg2 hbit hl1
          go_loopg [6, 7, 48] l.length (fun gg v6 v7 v48 wi => ∃ (d2 i : Nat) (qw ql : Int), d2 ≤ gg ∧ i + d2 = l.length ∧ v48 = .int .i64 (i : Int) ∧ v6 = .int .i64 qw ∧ v7 = .int .i64 ql ∧ Aside0 (nwIn hs2 ls1 s d2 i (qw, ql) = Q0) ∧ Aside0 (GaB A0 c0 a l g gh gl N hs2 ls1 wi) ∧ Aside0 (wi.heap[gb]? = some (.cells #[.int .i64 a, .slice A0 l.length c0] 26 (0, 0))) ∧ Aside0 (Below w.heap.size w wi))
          case atStart => exact ⟨l.length, 0, 0, 0, Nat.le_refl _, Nat.zero_add _, rfl, rfl, rfl, ⟨HQ0.out.symm⟩, HG5, BK5, HB5⟩
          case round =>
            clear HG5 BK5 HB5 HQ0
            obtain ⟨d2, i, qw, ql, hgg, hid, rfl, rfl, rfl, HQ, HG, BK, HB⟩ := hrel
            have hg2 : wr.cell? ⟨g, 2, none⟩ = some (.slice (some ⟨gh, 0, none⟩) N N) := (blk_cell HG.out.1 2).trans rfl
            have hg3 : wr.cell? ⟨g, 3, none⟩ = some (.slice (some ⟨gl, 0, none⟩) N N) := (blk_cell HG.out.1 3).trans rfl
            cases d2 with
            | zero =>
              have d2_ : decide (i < l.length) = false := decide_eq_false (by omega)
              have hq := HQ.out
              rw [nwIn] at hq
              have HQE := Aside0.mk hq
              clear hgg hid hq HQ
              have HWI2 := HWI
              by_cases hqz : qw = 0
              · subst hqz
                have hal := HG.out.atL s HSN.out
                have hfl := blk_frozen HG.out.2.2.1 s
                have hg3' : (wr.setCell ⟨gl, s, none⟩ (.int .i64 0)).cell? ⟨g, 3, none⟩ = some (.slice (some ⟨gl, 0, none⟩) N N) := (blk_cell (HG.out.putL s 0).1 3).trans rfl
                have hal' := (HG.out.putL s 0).atL s HSN.out
                have hfl' := blk_frozen (HG.out.putL s 0).2.2.1 s
                go_wp2
                go_roundg d
                case measure => have := HGG.out; omega
                case rel => exact ⟨d, s + 1, _, _, Nat.le_refl _, by have := HSD.out; omega, by rw [← HWI.out], HM, ⟨by
                    have h1 := ((HG.out.putL s 0).putL s (wrap64 (-ql)))
                    rw [List.set_set] at h1
                    rw [← HQE.out]
                    exact h1⟩, ⟨blk_far (blk_far BK.out (p := ⟨gl, s, none⟩) (blk_ne BK.out HG.out.2.2.1 (by decide)) _) (p := ⟨gl, s, none⟩) (blk_ne BK.out HG.out.2.2.1 (by decide)) _⟩, ⟨below_set (below_set HB.out ZL.out) ZL.out⟩⟩
              · have t1 : (qw == 0) = false := by simp [hqz]
                have hal := HG.out.atL s HSN.out
                have hfl := blk_frozen HG.out.2.2.1 s
                have HQZ := Aside0.mk hqz
                clear hqz
                go_wp2
                go_roundg d
                case measure => have := HGG.out; omega
                case rel => exact ⟨d, s + 1, _, _, Nat.le_refl _, by have := HSD.out; omega, by rw [← HWI.out], HM, ⟨by
                    have h1 := HG.out.putL s qw
                    rw [← HQE.out]
                    unfold nwEnd
                    rw [if_neg HQZ.out]
                    exact h1⟩, ⟨blk_far BK.out (p := ⟨gl, s, none⟩) (blk_ne BK.out HG.out.2.2.1 (by decide)) _⟩, ⟨below_set HB.out ZL.out⟩⟩
            | succ d2 =>
              have d2_ : decide (i < l.length) = true := decide_eq_true (by omega)
              have hq := HQ.out
              rw [nwIn] at hq
              have HQE := Aside0.mk hq
              have hil : i < l.length := by omega
              have HI12 := Lib.hid (show i < 12 by have := HN12.out; omega)
              have HGD := Lib.hid hgg
              have HID := Lib.hid hid
              clear hgg hid hq HQ hil
              have e23 : ((s : Int) / 2 ^ min i 64) = ((s / 2 ^ i : Nat) : Int) := by rw [Nat.min_eq_left (by have := HI12.out; omega)]; push_cast; rfl
              obtain ⟨x2, hx2⟩ : ∃ x2, x2 = s / 2 ^ i := ⟨_, rfl⟩
              rw [← hx2] at e23
              have HX2 := Lib.hid hx2
              clear hx2
              have HWJ := Lib.hid (show wrap64 ((i : Int) + 1) = ((i + 1 : Nat) : Int) by have := HI12.out; clear e23; unfold wrap64; omega)
              by_cases hbz : x2 % 2 = 0
              · have t1 : ((x2 : Int) % 2 == 0) = true := by
                  have : (x2 : Int) % 2 = 0 := by omega
                  simp [this]
                have hst : nwStep hs2 ls1 s i (qw, ql) = (qw, ql) := by unfold nwStep; rw [if_pos (by rw [← HX2.out]; exact hbz)]
                have HQ2 := Aside0.mk (show nwIn hs2 ls1 s d2 (i + 1) (qw, ql) = Q0 by rw [← hst]; exact HQE.out)
                clear hbz hst HQE
                go_wp2
                go_roundg d2
                case measure => have := HGD.out; omega
                case rel => exact ⟨d2, i + 1, qw, ql, Nat.le_refl _, by have := HID.out; omega, by rw [← HWJ.out], rfl, rfl, ⟨HQ2.out⟩, HG, BK, HB⟩
              · have t1 : ((x2 : Int) % 2 == 0) = false := by
                  have : (x2 : Int) % 2 = 1 := by omega
                  simp [this]
                have hbz2 : ¬ s / 2 ^ i % 2 = 0 := by rw [← HX2.out]; exact hbz
                have ec := clrI_eq s i (Nat.lt_of_lt_of_le HSN.out HN2.out) HI12.out hbz2
                rw [← show min i 64 = i from Nat.min_eq_left (by have := HI12.out; clear ec e23; omega)] at ec
                rw [show s - 2 ^ min i 64 = s - 2 ^ i by rw [Nat.min_eq_left (by have := HI12.out; clear ec e23; omega)]] at ec
                obtain ⟨t, ht⟩ : ∃ t, t = s - 2 ^ i := ⟨_, rfl⟩
                rw [← ht] at ec
                have htN : t < N := by rw [ht]; exact Nat.lt_of_le_of_lt (Nat.sub_le _ _) HSN.out
                have hch := HG.out.atH t htN
                have hcl := HG.out.atL t htN
                have p2 : 0 ≤ ((t : Nat) : Int) := by clear ec e23; omega
                have q2 : ((t : Nat) : Int) < (N : Int) := by clear ec e23; omega
                replace p2 := eq_true p2
                replace q2 := eq_true q2
                obtain ⟨hv, hhv⟩ : ∃ hv, hv = hs2.getD t false := ⟨_, rfl⟩
                obtain ⟨lv, hlv⟩ : ∃ lv, lv = ls1.getD t 0 := ⟨_, rfl⟩
                rw [← hhv] at hch
                rw [← hlv] at hcl
                have hst0 : nwStep hs2 ls1 s i (qw, ql) = if hv = true then (1, ql) else if lv < 0 ∧ (qw = 0 ∨ wrap64 (1 - lv) < qw) then (wrap64 (1 - lv), ql) else if 0 < lv then (qw, if ql > wrap64 (1 + lv) then ql else wrap64 (1 + lv)) else (qw, ql) := by
                  unfold nwStep; rw [if_neg hbz2, ← ht, ← hhv, ← hlv]
                have HST := Aside0.mk hst0
                clear hbz hbz2 hst0 hhv hlv ht htN
                cases hv0 : hv with
                | true =>
                  subst hv0
                  have hst := HST.out
                  rw [if_pos rfl] at hst
                  have HQ2 := Aside0.mk (show nwIn hs2 ls1 s d2 (i + 1) (1, ql) = Q0 by rw [← hst]; exact HQE.out)
                  clear hst HQE HST
                  go_wp2
                  go_roundg d2
                  case measure => have := HGD.out; omega
                  case rel => exact ⟨d2, i + 1, 1, ql, Nat.le_refl _, by have := HID.out; omega, by rw [← HWJ.out], rfl, rfl, ⟨HQ2.out⟩, HG, BK, HB⟩
                | false =>
                  subst hv0
                  have hst := HST.out
                  rw [if_neg (by simp)] at hst
                  clear HST
                  by_cases hneg : lv < 0
                  · have u1 : decide (lv < 0) = true := decide_eq_true hneg
                    have u3 : decide (0 < lv) = false := decide_eq_false (by omega)
                    by_cases hz : qw = 0
                    · have u2 : (qw == 0) = true := by simp [hz]
                      rw [if_pos ⟨hneg, Or.inl hz⟩] at hst
                      have HQ2 := Aside0.mk (show nwIn hs2 ls1 s d2 (i + 1) (wrap64 (1 - lv), ql) = Q0 by rw [← hst]; exact HQE.out)
                      clear hst HQE hneg hz
                      go_wp2
                      go_roundg d2
                      case measure => have := HGD.out; omega
                      case rel => exact ⟨d2, i + 1, wrap64 (1 - lv), ql, Nat.le_refl _, by have := HID.out; omega, by rw [← HWJ.out], rfl, rfl, ⟨HQ2.out⟩, HG, BK, HB⟩
                    · have u2 : (qw == 0) = false := by simp [hz]
                      by_cases hlt : wrap64 (1 - lv) < qw
                      · have u4 : decide (wrap64 (1 - lv) < qw) = true := decide_eq_true hlt
                        rw [if_pos ⟨hneg, Or.inr hlt⟩] at hst
                        have HQ2 := Aside0.mk (show nwIn hs2 ls1 s d2 (i + 1) (wrap64 (1 - lv), ql) = Q0 by rw [← hst]; exact HQE.out)
                        clear hst HQE hneg hz hlt
                        go_wp2
                        go_roundg d2
                        case measure => have := HGD.out; omega
                        case rel => exact ⟨d2, i + 1, wrap64 (1 - lv), ql, Nat.le_refl _, by have := HID.out; omega, by rw [← HWJ.out], rfl, rfl, ⟨HQ2.out⟩, HG, BK, HB⟩
                      · have u4 : decide (wrap64 (1 - lv) < qw) = false := decide_eq_false hlt
                        rw [if_neg (fun h => h.2.elim hz hlt), if_neg (by omega)] at hst
                        have HQ2 := Aside0.mk (show nwIn hs2 ls1 s d2 (i + 1) (qw, ql) = Q0 by rw [← hst]; exact HQE.out)
                        clear hst HQE hneg hz hlt
                        go_wp2
                        go_roundg d2
                        case measure => have := HGD.out; omega
                        case rel => exact ⟨d2, i + 1, qw, ql, Nat.le_refl _, by have := HID.out; omega, by rw [← HWJ.out], rfl, rfl, ⟨HQ2.out⟩, HG, BK, HB⟩
                  · have u1 : decide (lv < 0) = false := decide_eq_false hneg
                    rw [if_neg (fun h => hneg h.1)] at hst
                    by_cases hpos : 0 < lv
                    · have u3 : decide (0 < lv) = true := decide_eq_true hpos
                      rw [if_pos hpos] at hst
                      obtain ⟨mm, hmm⟩ : ∃ mm, mm = if ql > wrap64 (1 + lv) then ql else wrap64 (1 + lv) := ⟨_, rfl⟩
                      rw [← hmm] at hst
                      have HMM := Aside0.mk (show spec_l1Most.f ql (wrap64 (1 + lv)) = some mm by
                        rw [hmm]; unfold spec_l1Most.f; split <;> rfl)
                      have HQ2 := Aside0.mk (show nwIn hs2 ls1 s d2 (i + 1) (qw, mm) = Q0 by rw [← hst]; exact HQE.out)
                      clear hst HQE hneg hpos hmm
                      go_wp2_with (first | ((with_reducible refine (spec_l1Most.calls ql (wrap64 (1 + lv)) mm _ HMM.out).mono ?_); rintro e w9 ⟨rfl, ⟨q9, rfl⟩⟩))
                      go_roundg d2
                      case measure => have := HGD.out; omega
                      case rel => exact ⟨d2, i + 1, qw, mm, Nat.le_refl _, by have := HID.out; omega, by rw [← HWJ.out], rfl, rfl, ⟨HQ2.out⟩, ⟨HG.out.drewN q9⟩, ⟨blk_drewN BK.out q9⟩, ⟨pw_below_drewN HB.out q9⟩⟩
                    · have u3 : decide (0 < lv) = false := decide_eq_false hpos
                      rw [if_neg hpos] at hst
                      have HQ2 := Aside0.mk (show nwIn hs2 ls1 s d2 (i + 1) (qw, ql) = Q0 by rw [← hst]; exact HQE.out)
                      clear hst HQE hneg hpos
                      go_wp2
                      go_roundg d2
                      case measure => have := HGD.out; omega
                      case rel => exact ⟨d2, i + 1, qw, ql, Nat.le_refl _, by have := HID.out; omega, by rw [← HWJ.out], rfl, rfl, ⟨HQ2.out⟩, HG, BK, HB⟩


/-! ### spec_gaTakes_best: function 118 -/
def gbGo (hs : List Bool) (ls : List Int) (s : Nat) (wt : Int) : Nat → Nat → Int
  | 0, _ => -1
  | d + 1, i => if s / 2 ^ i % 2 = 0 then gbGo hs ls s wt d (i + 1)
    else if (hs.getD (s - 2 ^ i) false = true ∧ wt = 1) ∨ (hs.getD (s - 2 ^ i) false = false ∧ ((1 < wt ∧ ls.getD (s - 2 ^ i) 0 = wrap64 (1 - wt)) ∨ (wt < 0 ∧ ls.getD (s - 2 ^ i) 0 = wrap64 (wrap64 (-wt) - 1)))) then (i : Int) else gbGo hs ls s wt d (i + 1)
def gbF (n : Nat) (hs : List Bool) (ls : List Int) (s : Nat) : Int := gbGo hs ls s (ls.getD s 0) n 0
set_option maxHeartbeats 4000000 in
set_option maxRecDepth 100000 in
theorem gb_calls (a : Int) (A0 : Option Addr) (c0 : Nat) (l : List Int) (g gh gl N : Nat) (hs : List Bool) (ls : List Int) (s : Nat) (w : World) (hn : l.length ≤ 12) (hN : N ≤ 4096) (hsN : s < N) (hg : GaB A0 c0 a l g gh gl N hs ls w) :
    Calls Try.prog 118 #[.pointer (some ⟨g, 0, none⟩), .int .i64 (s : Int)] w fun e w' => e = .returned (.int .i64 (gbF l.length hs ls s)) ∧ Drawn0 w w' := by
  have hu28 := Try.underlying26
  have hu58 := Try.underlying100
  obtain ⟨r, hr⟩ : ∃ r, r = gbF l.length hs ls s := ⟨_, rfl⟩
  rw [← hr]
  unfold gbF at hr
  obtain ⟨wt, hwt⟩ : ∃ wt, wt = ls.getD s 0 := ⟨_, rfl⟩
  rw [← hwt] at hr
  have HQ := Aside0.mk hr.symm
  have HWT := Lib.hid hwt
  have HN := Lib.hid hN
  have HN12 := Lib.hid hn
  have HSN := Lib.hid hsN
  have HG := Aside0.mk hg
  have HD := Aside0.mk (Drawn0.refl w)
  have hg1 : w.cell? ⟨g, 1, none⟩ = some (.slice A0 l.length c0) := (blk_cell hg.1 1).trans rfl
  clear hr hwt hN hn hsN hg
  go_enter Try.func118, Try.ntmps118
  go_wp2
  clear hg1
  go_loopg [14] l.length (fun gg v14 wr => ∃ (d i : Nat), d ≤ gg ∧ i + d = l.length ∧ v14 = .int .i64 (i : Int) ∧ Aside0 (gbGo hs ls s wt d i = r) ∧ Aside0 (GaB A0 c0 a l g gh gl N hs ls wr) ∧ Aside0 (Drawn0 w wr))
  case atStart => exact ⟨l.length, 0, Nat.le_refl _, Nat.zero_add _, rfl, HQ, HG, HD⟩
  case round =>
    clear HG HD HQ
    obtain ⟨d, i, hgg, hid, rfl, HQ, HG, HD⟩ := hrel
    have hq := HQ.out
    cases d with
    | zero =>
      have d1 : decide (i < l.length) = false := decide_eq_false (by omega)
      rw [gbGo] at hq
      have HQ2 := Aside0.mk hq
      clear hgg hid hq HQ
      go_wp2
      go_ret
      exact ⟨by rw [← HQ2.out]; rfl, HD.out⟩
    | succ d =>
      rw [gbGo] at hq
      have d1 : decide (i < l.length) = true := decide_eq_true (by omega)
      have HI12 := Lib.hid (show i < 12 by have := HN12.out; omega)
      have HGG := Lib.hid hgg
      have HID := Lib.hid hid
      have HWJ := Lib.hid (show wrap64 ((i : Int) + 1) = ((i + 1 : Nat) : Int) by have := HI12.out; unfold wrap64; omega)
      clear hgg hid HQ
      have hg2 : wr.cell? ⟨g, 2, none⟩ = some (.slice (some ⟨gh, 0, none⟩) N N) := (blk_cell HG.out.1 2).trans rfl
      have hg3 : wr.cell? ⟨g, 3, none⟩ = some (.slice (some ⟨gl, 0, none⟩) N N) := (blk_cell HG.out.1 3).trans rfl
      have hcw := HG.out.atL s HSN.out
      rw [← HWT.out] at hcw
      have p1 : 0 ≤ ((s : Nat) : Int) := by omega
      have q1 : ((s : Nat) : Int) < (N : Int) := by have := HSN.out; omega
      replace p1 := eq_true p1
      replace q1 := eq_true q1
      have e23 : ((s : Int) / 2 ^ min i 64) = ((s / 2 ^ i : Nat) : Int) := by rw [Nat.min_eq_left (by have := HI12.out; omega)]; push_cast; rfl
      obtain ⟨x2, hx2⟩ : ∃ x2, x2 = s / 2 ^ i := ⟨_, rfl⟩
      rw [← hx2] at e23
      have HX2 := Lib.hid hx2
      clear hx2
      by_cases hbz : x2 % 2 = 0
      · have t1 : ((x2 : Int) % 2 == 0) = true := by
          have : (x2 : Int) % 2 = 0 := by omega
          simp [this]
        rw [if_pos (by rw [← HX2.out]; exact hbz)] at hq
        have HQ2 := Aside0.mk hq
        clear hbz hq
        go_wp2
        go_roundg d
        case measure => have := HGG.out; omega
        case rel => exact ⟨d, i + 1, Nat.le_refl _, by have := HID.out; omega, by rw [← HWJ.out], HQ2, HG, HD⟩
      · have t1 : ((x2 : Int) % 2 == 0) = false := by
          have : (x2 : Int) % 2 = 1 := by omega
          simp [this]
        have hbz2 : ¬ s / 2 ^ i % 2 = 0 := by rw [← HX2.out]; exact hbz
        rw [if_neg hbz2] at hq
        have ec := clrI_eq s i (Nat.lt_of_lt_of_le HSN.out HN.out) HI12.out hbz2
        rw [← show min i 64 = i from Nat.min_eq_left (by have := HI12.out; clear ec e23; omega)] at ec
        rw [show s - 2 ^ min i 64 = s - 2 ^ i by rw [Nat.min_eq_left (by have := HI12.out; clear ec e23; omega)]] at ec
        obtain ⟨t, ht⟩ : ∃ t, t = s - 2 ^ i := ⟨_, rfl⟩
        rw [← ht] at ec hq
        have htN : t < N := by rw [ht]; exact Nat.lt_of_le_of_lt (Nat.sub_le _ _) HSN.out
        have hch := HG.out.atH t htN
        have hcl := HG.out.atL t htN
        have p2 : 0 ≤ ((t : Nat) : Int) := by clear ec e23; omega
        have q2 : ((t : Nat) : Int) < (N : Int) := by clear ec e23; omega
        replace p2 := eq_true p2
        replace q2 := eq_true q2
        obtain ⟨hv, hhv⟩ : ∃ hv, hv = hs.getD t false := ⟨_, rfl⟩
        obtain ⟨lv, hlv⟩ : ∃ lv, lv = ls.getD t 0 := ⟨_, rfl⟩
        rw [← hhv] at hch
        rw [← hlv] at hcl
        rw [← hhv, ← hlv] at hq
        clear hbz hbz2 hhv hlv ht htN
        have w1_ : wrap64 (1 - wt) = wrap64 (1 - wt) := rfl
        clear w1_
        cases hv0 : hv with
        | true =>
          subst hv0
          by_cases h1 : wt = 1
          · have u1 : (wt == 1) = true := by simp [h1]
            rw [if_pos (Or.inl ⟨rfl, h1⟩)] at hq
            have HQ2 := Aside0.mk hq
            clear hq h1
            go_wp2
            go_ret
            exact ⟨by rw [← HQ2.out]; rfl, HD.out⟩
          · have u1 : (wt == 1) = false := by simp [h1]
            rw [if_neg (fun h => h.elim (fun h => h1 h.2) (fun h => by cases h.1))] at hq
            have HQ2 := Aside0.mk hq
            clear hq
            by_cases h2 : 1 < wt
            · have u2 : decide (1 < wt) = true := decide_eq_true h2
              have u3 : decide (wt < 0) = false := decide_eq_false (by omega)
              clear h1 h2
              go_wp2
              go_roundg d
              case measure => have := HGG.out; omega
              case rel => exact ⟨d, i + 1, Nat.le_refl _, by have := HID.out; omega, by rw [← HWJ.out], HQ2, HG, HD⟩
            · have u2 : decide (1 < wt) = false := decide_eq_false h2
              by_cases h3 : wt < 0
              · have u3 : decide (wt < 0) = true := decide_eq_true h3
                clear h1 h2 h3
                go_wp2
                go_roundg d
                case measure => have := HGG.out; omega
                case rel => exact ⟨d, i + 1, Nat.le_refl _, by have := HID.out; omega, by rw [← HWJ.out], HQ2, HG, HD⟩
              · have u3 : decide (wt < 0) = false := decide_eq_false h3
                clear h1 h2 h3
                go_wp2
                go_roundg d
                case measure => have := HGG.out; omega
                case rel => exact ⟨d, i + 1, Nat.le_refl _, by have := HID.out; omega, by rw [← HWJ.out], HQ2, HG, HD⟩
        | false =>
          subst hv0
          by_cases h2 : 1 < wt
          · have u1 : (wt == 1) = false := by
              have : wt ≠ 1 := by omega
              simp [this]
            have u2 : decide (1 < wt) = true := decide_eq_true h2
            have u3 : decide (wt < 0) = false := decide_eq_false (by omega)
            by_cases h4 : lv = wrap64 (1 - wt)
            · have u4 : (lv == wrap64 (1 - wt)) = true := by simp [h4]
              rw [if_pos (Or.inr ⟨rfl, Or.inl ⟨h2, h4⟩⟩)] at hq
              have HQ2 := Aside0.mk hq
              clear hq h2 h4
              go_wp2
              go_ret
              exact ⟨by rw [← HQ2.out]; rfl, HD.out⟩
            · have u4 : (lv == wrap64 (1 - wt)) = false := by simp [h4]
              rw [if_neg (fun h => h.elim (fun h => by cases h.1) (fun h => h.2.elim (fun h => h4 h.2) (fun h => by omega)))] at hq
              have HQ2 := Aside0.mk hq
              clear hq h2 h4
              go_wp2
              go_roundg d
              case measure => have := HGG.out; omega
              case rel => exact ⟨d, i + 1, Nat.le_refl _, by have := HID.out; omega, by rw [← HWJ.out], HQ2, HG, HD⟩
          · have u2 : decide (1 < wt) = false := decide_eq_false h2
            by_cases h3 : wt < 0
            · have u1 : (wt == 1) = false := by
                have : wt ≠ 1 := by omega
                simp [this]
              have u3 : decide (wt < 0) = true := decide_eq_true h3
              by_cases h4 : lv = wrap64 (wrap64 (-wt) - 1)
              · have u4 : (lv == wrap64 (wrap64 (-wt) - 1)) = true := by simp [h4]
                rw [if_pos (Or.inr ⟨rfl, Or.inr ⟨h3, h4⟩⟩)] at hq
                have HQ2 := Aside0.mk hq
                clear hq h2 h3 h4
                go_wp2
                go_ret
                exact ⟨by rw [← HQ2.out]; rfl, HD.out⟩
              · have u4 : (lv == wrap64 (wrap64 (-wt) - 1)) = false := by simp [h4]
                rw [if_neg (fun h => h.elim (fun h => by cases h.1) (fun h => h.2.elim (fun h => h2 h.1) (fun h => h4 h.2)))] at hq
                have HQ2 := Aside0.mk hq
                clear hq h2 h3 h4
                go_wp2
                go_roundg d
                case measure => have := HGG.out; omega
                case rel => exact ⟨d, i + 1, Nat.le_refl _, by have := HID.out; omega, by rw [← HWJ.out], HQ2, HG, HD⟩
            · have u3 : decide (wt < 0) = false := decide_eq_false h3
              rw [if_neg (fun h => h.elim (fun h => by cases h.1) (fun h => h.2.elim (fun h => h2 h.1) (fun h => h3 h.1)))] at hq
              have HQ2 := Aside0.mk hq
              clear hq
              by_cases h1 : wt = 1
              · have u1 : (wt == 1) = true := by simp [h1]
                clear h1 h2 h3
                go_wp2
                go_roundg d
                case measure => have := HGG.out; omega
                case rel => exact ⟨d, i + 1, Nat.le_refl _, by have := HID.out; omega, by rw [← HWJ.out], HQ2, HG, HD⟩
              · have u1 : (wt == 1) = false := by simp [h1]
                clear h1 h2 h3
                go_wp2
                go_roundg d
                case measure => have := HGG.out; omega
                case rel => exact ⟨d, i + 1, Nat.le_refl _, by have := HID.out; omega, by rw [← HWJ.out], HQ2, HG, HD⟩


/-! ### spec_TakeLine: function 50 -/
def glGo (n : Nat) (hs : List Bool) (ls : List Int) : Nat → Nat → Option (List Int)
  | 0, _ => none
  | d + 1, s => if hs.getD s false = true then some [] else if 0 ≤ gbF n hs ls s ∧ gbF n hs ls s < 12 ∧ ¬ s / 2 ^ (gbF n hs ls s).toNat % 2 = 0 then (glGo n hs ls d (s - 2 ^ (gbF n hs ls s).toNat)).bind fun r => some (gbF n hs ls s :: r) else none
def spec_TakeLine.f (k : Nat) (a : Int) (l : List Int) : Option (List Int × Bool) := (spec_gaTaking.f k a l).bind fun t => if t = true then (gaNewF k a l).bind fun p => (glGo l.length p.1 p.2 (l.length + 1) (2 ^ l.length - 1)).bind fun r => some (r, true) else some ([], false)
theorem spec_TakeLine.mono : ∀ a0 a1 k, LeO (spec_TakeLine.f k a0 a1) (spec_TakeLine.f (k + 1) a0 a1) := by
  intro a0 a1 k
  unfold spec_TakeLine.f
  exact LeO.bind (spec_gaTaking.mono _ _ _) fun _ => LeO.ite (LeO.bind (gaNewF_mono k _ _) fun _ => LeO.refl _) (LeO.refl _)
set_option maxHeartbeats 4000000 in
set_option maxRecDepth 100000 in
theorem spec_TakeLine.calls (k : Nat) (a : Int) (A0 : Option Addr) (c0 : Nat) (l : List Int) (r1 : List Int) (r2 : Bool) (w : World) (hr : Kd.C (Kd.int .i64) w A0 l.length l) (hc : l.length ≤ c0) (h : spec_TakeLine.f k a l = some (r1, r2)) :
    Calls Try.prog 50 #[.agg #[.int .i64 a, .slice A0 l.length c0]] w fun e w' => ∃ v0_ : Value, e = .returned (.tuple #[v0_, .bool r2]) ∧ Kd.R (Kd.int .i64) 3 w' w.heap.size (fun _ => True) v0_ r1 ∧ Below w.heap.size w w' := by
  have hu28 := Try.underlying26
  have hu58 := Try.underlying100
  have HR := Aside0.mk hr
  have HC := Aside0.mk hc
  have HB := Aside0.mk (Below.refl w.heap.size w)
  replace h := Option.bind_eq_some_iff.mp h
  obtain ⟨t, ht, h⟩ := h
  have HT := Aside0.mk ht
  clear hr hc ht
  cases t with
  | false =>
    rw [if_neg (by simp)] at h
    simp only [Option.some.injEq, Prod.mk.injEq] at h
    obtain ⟨rfl, rfl⟩ := h
    go_enter Try.func50, Try.ntmps50
    go_wp2_with (first | ((with_reducible refine gate_dst (N := 1) rfl ?_); refine box_event ?hg (N := 1) ?hd (cs := #[.int .i64 a, .slice A0 l.length c0]) (t := 26) ?hr ?_; (case hd => rfl); (case hg => rfl); (case hr => first | (go_simp; done) | (go_simp; rfl)); intro gb hg w1 hbox hb; have n0_ := Aside0.mk (below_step HB.out hb); clear HB; have HB := n0_; clear n0_; have BKL := Aside0.mk hbox; clear hbox hb hg; have hcz0 : w1.cell? ⟨gb, 0, none⟩ = some (.int .i64 a) := (blk_cell BKL.out 0).trans rfl; have hcz1 : w1.cell? ⟨gb, 1, none⟩ = some (.slice A0 l.length c0) := (blk_cell BKL.out 1).trans rfl) | ((with_reducible refine (spec_gaTaking.calls k a A0 c0 l false _ (Kd.C_below HR.out HB.out) HC.out HT.out).mono ?_); rintro e w2 ⟨rfl, hb⟩; have n0_ := Aside0.mk (below_step HB.out hb); have n1_ := Aside0.mk (blk_below BKL.out hb); clear HB BKL hb; have HB := n0_; have BKL := n1_; clear n0_ n1_; have hcy0 : w2.cell? ⟨gb, 0, none⟩ = some (.int .i64 a) := (blk_cell BKL.out 0).trans rfl; have hcy1 : w2.cell? ⟨gb, 1, none⟩ = some (.slice A0 l.length c0) := (blk_cell BKL.out 1).trans rfl))
    go_ret2
    exact ⟨_, rfl, Kd.R_nil _ _ _ _ _, HB.out⟩
  | true =>
    rw [if_pos rfl] at h
    replace h := Option.bind_eq_some_iff.mp h
    obtain ⟨⟨hs, ls⟩, hnew, h⟩ := h
    have hn : l.length ≤ 12 := by
      unfold gaNewF at hnew
      by_cases hn : l.length ≤ 12
      · exact hn
      · rw [if_neg hn] at hnew; cases hnew
    have hN1 : 1 ≤ 2 ^ l.length := Nat.one_le_two_pow
    have hN2 : 2 ^ l.length ≤ 4096 := by have h1 := Nat.pow_le_pow_right (n := 2) (by decide) hn; omega
    have HNEW := Aside0.mk hnew
    have HN12 := Lib.hid hn
    obtain ⟨N, hN⟩ : ∃ N, N = 2 ^ l.length := ⟨_, rfl⟩
    rw [← hN] at hN1 hN2
    have HN1 := Lib.hid hN1
    have HN2 := Lib.hid hN2
    have HNN := Lib.hid hN
    obtain ⟨M, hM⟩ : ∃ M, M = N - 1 := ⟨_, rfl⟩
    have e1 : wrap64 ((N : Int) - 1) = (M : Int) := by unfold wrap64; omega
    have q1 : (M : Int) < (N : Int) := by omega
    have p1 : 0 ≤ (M : Int) := by omega
    have HMN := Lib.hid (show M < N by omega)
    replace p1 := eq_true p1
    replace q1 := eq_true q1
    replace h := Option.bind_eq_some_iff.mp h
    obtain ⟨rr, hrr, h⟩ := h
    simp only [Option.some.injEq, Prod.mk.injEq] at h
    obtain ⟨rfl, rfl⟩ := h
    rw [← hN, ← hM] at hrr
    have HRR := Aside0.mk hrr
    clear hN1 hN2 hn hnew hN hM hrr
    go_enter Try.func50, Try.ntmps50
    go_wp2_with (first | ((with_reducible refine gate_dst (N := 1) rfl ?_); refine box_event ?hg (N := 1) ?hd (cs := #[.int .i64 a, .slice A0 l.length c0]) (t := 26) ?hr ?_; (case hd => rfl); (case hg => rfl); (case hr => first | (go_simp; done) | (go_simp; rfl)); intro gb hg w1 hbox hb; have n0_ := Aside0.mk (below_step HB.out hb); clear HB; have HB := n0_; clear n0_; have BKL := Aside0.mk hbox; clear hbox hb hg; have hcz0 : w1.cell? ⟨gb, 0, none⟩ = some (.int .i64 a) := (blk_cell BKL.out 0).trans rfl; have hcz1 : w1.cell? ⟨gb, 1, none⟩ = some (.slice A0 l.length c0) := (blk_cell BKL.out 1).trans rfl) | ((with_reducible refine (spec_gaTaking.calls k a A0 c0 l true _ (Kd.C_below HR.out HB.out) HC.out HT.out).mono ?_); rintro e w2 ⟨rfl, hb⟩; have n0_ := Aside0.mk (below_step HB.out hb); have n1_ := Aside0.mk (blk_below BKL.out hb); clear HB BKL hb; have HB := n0_; have BKL := n1_; clear n0_ n1_; have hcy0 : w2.cell? ⟨gb, 0, none⟩ = some (.int .i64 a) := (blk_cell BKL.out 0).trans rfl; have hcy1 : w2.cell? ⟨gb, 1, none⟩ = some (.slice A0 l.length c0) := (blk_cell BKL.out 1).trans rfl) | ((with_reducible refine (gaNew_calls k a A0 c0 l hs ls _ (Kd.C_below HR.out HB.out) HC.out HNEW.out).mono ?_); rw [← HNN.out]; rintro e w3 ⟨g, gh, gl, rfl, hga, hb⟩; have HG := Aside0.mk hga; have n0_ := Aside0.mk (below_step HB.out hb); have n1_ := Aside0.mk (blk_below BKL.out hb); clear HB BKL hga hb hcz0 hcz1 hcy0 hcy1; have HB := n0_; have BKL := n1_; clear n0_ n1_; have hcx1 : w3.cell? ⟨gb, 1, none⟩ = some (.slice A0 l.length c0) := (blk_cell BKL.out 1).trans rfl; have hcg3 : w3.cell? ⟨g, 3, none⟩ = some (.slice (some ⟨gl, 0, none⟩) N N) := (blk_cell HG.out.1 3).trans rfl; have hcg2 : w3.cell? ⟨g, 2, none⟩ = some (.slice (some ⟨gh, 0, none⟩) N N) := (blk_cell HG.out.1 2).trans rfl))
    clear hcx1 hcg3 hcg2 BKL
    rw [e1]
    go_loopg [5, 6] (l.length + 1) (fun gg v5 v6 wr => ∃ (d s : Nat) (acc r2 : List Int), d ≤ gg ∧ v5 = .int .i64 (s : Int) ∧ Aside0 (glGo l.length hs ls d s = some r2) ∧ Aside0 (acc ++ r2 = rr) ∧ Aside0 (acc.length + d = l.length + 1) ∧ Aside0 (s < N) ∧ Aside0 (GaB A0 c0 a l g gh gl N hs ls wr) ∧ Aside0 (Kd.R (Kd.int .i64) 3 wr w.heap.size (fun k_ => k_ ≠ g ∧ k_ ≠ gh ∧ k_ ≠ gl) v6 acc) ∧ Aside0 (Below w.heap.size w wr))
    case atStart => exact ⟨l.length + 1, M, [], rr, Nat.le_refl _, rfl, HRR, ⟨rfl⟩, ⟨Nat.zero_add _⟩, ⟨HMN.out⟩, HG, ⟨Kd.R_nil _ _ _ _ _⟩, HB⟩
    case round =>
      clear HG HB HRR
      obtain ⟨d, s, acc, r2, hgg, rfl, HGO, HAC, HAL, HSN, HG, HRO, HB⟩ := hrel
      have hgo := HGO.out
      cases d with
      | zero => rw [glGo] at hgo; cases hgo
      | succ d =>
        rw [glGo] at hgo
        have HGG := Lib.hid hgg
        clear hgg HGO
        have hcg2 : wr.cell? ⟨g, 2, none⟩ = some (.slice (some ⟨gh, 0, none⟩) N N) := (blk_cell HG.out.1 2).trans rfl
        have hch := HG.out.atH s HSN.out
        have p2 : 0 ≤ ((s : Nat) : Int) := by clear e1; omega
        have q2 : ((s : Nat) : Int) < (N : Int) := by have := HSN.out; clear e1; omega
        replace p2 := eq_true p2
        replace q2 := eq_true q2
        obtain ⟨hv, hhv⟩ : ∃ hv, hv = hs.getD s false := ⟨_, rfl⟩
        rw [← hhv] at hch hgo
        clear hhv
        cases hv0 : hv with
        | true =>
          subst hv0
          rw [if_pos rfl] at hgo
          injection hgo with hgo
          subst hgo
          have hac := HAC.out
          rw [List.append_nil] at hac
          have HAA := Aside0.mk hac
          clear hac HAC
          go_wp2
          go_ret2
          exact ⟨_, rfl, by rw [← HAA.out]; exact Kd.R_mono HRO.out (fun _ _ => trivial), HB.out⟩
        | false =>
          subst hv0
          rw [if_neg (by simp)] at hgo
          obtain ⟨y, hy⟩ : ∃ y, y = gbF l.length hs ls s := ⟨_, rfl⟩
          rw [← hy] at hgo
          have HY := Lib.hid hy
          clear hy
          by_cases hc : 0 ≤ y ∧ y < 12 ∧ ¬ s / 2 ^ y.toNat % 2 = 0
          case neg => rw [if_neg hc] at hgo; cases hgo
          rw [if_pos hc] at hgo
          obtain ⟨t, rfl⟩ : ∃ t : Nat, y = t := ⟨y.toNat, by clear e1; omega⟩
          rw [show ((t : Int)).toNat = t from rfl] at hgo hc
          replace hgo := Option.bind_eq_some_iff.mp hgo
          obtain ⟨r3, h3, hgo⟩ := hgo
          injection hgo with hgo
          have ht12 : t < 12 := by clear e1; omega
          have HTL := Lib.hid ht12
          have ec := clrI_eq s t (Nat.lt_of_lt_of_le HSN.out HN2.out) ht12 hc.2.2
          rw [← show min t 64 = t from Nat.min_eq_left (by clear ec e1; omega)] at ec
          rw [show s - 2 ^ min t 64 = s - 2 ^ t by rw [Nat.min_eq_left (by clear ec e1; omega)]] at ec
          obtain ⟨s2, hs2⟩ : ∃ s2, s2 = s - 2 ^ t := ⟨_, rfl⟩
          rw [← hs2] at ec h3
          have HS2 := Lib.hid (show s2 < N by rw [hs2]; exact Nat.lt_of_le_of_lt (Nat.sub_le _ _) HSN.out)
          have H3 := Aside0.mk h3
          have HGO2 := Aside0.mk hgo
          clear hc h3 ht12 hs2 hgo
          go_wp2_with (first | ((with_reducible refine (gb_calls a A0 c0 l g gh gl N hs ls s _ HN12.out HN2.out HSN.out HG.out).mono ?_); rw [← HY.out]; rintro e w5 ⟨rfl, ⟨q5, rfl⟩⟩; have n0_ := Aside0.mk (HG.out.drewN q5); have n1_ := Aside0.mk (Kd.R_drewN HRO.out q5); have n2_ := Aside0.mk (pw_below_drewN HB.out q5); clear HG HRO HB; have HG := n0_; have HRO := n1_; have HB := n2_; clear n0_ n1_ n2_) | ((with_reducible refine gate_builtin (b := .append) (xs := #[.tmp 30, .tmp 32]) rfl ?_); at_builtin; refine Kd.R_append (Kd.int .i64) (w0 := w) w.heap.size rfl (.tmp 30) (.tmp 32) 24 3 (.int .i64 0) 8 rfl Try.underlying24 info3 rfl (by decide) (by omega) u6 acc (t : Int) [.int .i64 (t : Int)] (fun k_ => k_ ≠ g ∧ k_ ≠ gh ∧ k_ ≠ gl) (fun _ => False) rfl rfl ?aP (fun _ hk => hk.elim) ?aF ?aO ?aB ?aS ?aL ?_; (case aP => exact rfl); (case aB => exact HB.out); (case aF => exact (fun k_ hk => ⟨Nat.ne_of_gt (Nat.lt_of_lt_of_le (blk_lt HG.out.1) hk), Nat.ne_of_gt (Nat.lt_of_lt_of_le (blk_lt HG.out.2.1) hk), Nat.ne_of_gt (Nat.lt_of_lt_of_le (blk_lt HG.out.2.2.1) hk)⟩)); (case aO => exact HRO.out); (case aS => exact HB.out.size); (case aL => exact (by have := HN12.out; have := HAL.out; omega)); intro v2 w2 ho hb hg hat; have n0_ := Aside0.mk (HG.out.grown hg (fun k_ e_ => HRO.out.1 k_ e_)); have n1_ := Aside0.mk ho; have n2_ := Aside0.mk hb; clear HG HRO HB ho hb hg hat; have HG := n0_; have HRO := n1_; have HB := n2_; clear n0_ n1_ n2_))
          go_roundg d
          case measure => have := HGG.out; omega
          case rel => exact ⟨d, s2, acc ++ [(t : Int)], r3, Nat.le_refl _, rfl, H3, ⟨by rw [← HAC.out, ← HGO2.out, List.append_assoc]; rfl⟩, ⟨by rw [List.length_append]; have := HAL.out; simp; omega⟩, ⟨HS2.out⟩, HG, HRO, HB⟩


/-! ### impl_TakeWinner: function 51 -/
def impl_TakeWinner.f (k : Nat) (a0 : Int) (l0 : List Int) : Option (Bool × Bool) := (impl_isTaking.f k a0 l0).bind fun t => if t = true then (if l0.length ≤ 12 then (bestF k a0 l0 (2 ^ l0.length - 1)).bind fun o => some (o.1, true) else none) else some (false, false)
theorem impl_TakeWinner.mono : ∀ a0 a1 k, LeO (impl_TakeWinner.f k a0 a1) (impl_TakeWinner.f (k + 1) a0 a1) := by
  intro a0 a1 k
  unfold impl_TakeWinner.f
  exact LeO.bind (impl_isTaking.mono _ _ _) fun _ => LeO.ite (LeO.ite (LeO.bind (bestF_mono k _ _ _) fun _ => LeO.refl _) (LeO.refl _)) (LeO.refl _)
set_option maxHeartbeats 4000000 in
set_option maxRecDepth 100000 in
theorem impl_TakeWinner.calls (k : Nat) (a0_0 : Int) (A0_1 : Option Addr) (c0_1 : Nat) (l0_1 : List Int) (r1 : Bool) (r2 : Bool) (w : World) (hr0_1 : Kd.C (Kd.int .i64) w A0_1 l0_1.length l0_1) (hc0_1 : l0_1.length ≤ c0_1) (h : impl_TakeWinner.f k a0_0 l0_1 = some (r1, r2)) :
    Calls Try.prog 51 #[.agg #[.int .i64 a0_0, .slice A0_1 l0_1.length c0_1]] w fun e w' => e = .returned (.tuple #[.bool r1, .bool r2]) ∧ Below w.heap.size w w' := by
  have hu28 := Try.underlying26
  have hu60 := Try.underlying95
  have hfl : ∀ (W : World) (x : Bool) (y z : Int), (Instr.field 95 (.agg #[.bool x, .int .i64 y, .int .i64 z]) 0).run Try.prog W = .ok (.bool x) W := fun _ _ _ _ => by kernel_rfl
  have HR := Aside0.mk hr0_1
  have HC := Aside0.mk hc0_1
  have HB := Aside0.mk (Below.refl w.heap.size w)
  replace h := Option.bind_eq_some_iff.mp h
  obtain ⟨t, ht, h⟩ := h
  have HT := Aside0.mk ht
  clear hr0_1 hc0_1 ht
  cases t with
  | false =>
    rw [if_neg (by simp)] at h
    simp only [Option.some.injEq, Prod.mk.injEq] at h
    obtain ⟨rfl, rfl⟩ := h
    go_enter Try.func51, Try.ntmps51
    go_wp2_with (first | ((with_reducible refine gate_dst (N := 1) rfl ?_); refine box_event ?hg (N := 1) ?hd (cs := #[.int .i64 a0_0, .slice A0_1 l0_1.length c0_1]) (t := 26) ?hr ?_; (case hd => rfl); (case hg => rfl); (case hr => first | (go_simp; done) | (go_simp; rfl)); intro gl hg w1 hbox hb; have n0_ := Aside0.mk (below_step HB.out hb); clear HB; have HB := n0_; clear n0_; have BKL := Aside0.mk hbox; clear hbox hb hg; have hcz0 : w1.cell? ⟨gl, 0, none⟩ = some (.int .i64 a0_0) := (blk_cell BKL.out 0).trans rfl; have hcz1 : w1.cell? ⟨gl, 1, none⟩ = some (.slice A0_1 l0_1.length c0_1) := (blk_cell BKL.out 1).trans rfl; have hfz0 := blk_frozen BKL.out 0; have hfz1 := blk_frozen BKL.out 1) | ((with_reducible refine gate_callee (f := 112) rfl ?_); refine goesL_ (some 8) rfl rfl Try.func112 (by kernel_rfl) rfl #[.agg #[.int .i64 a0_0, .slice A0_1 l0_1.length c0_1]] rfl (by (try simp only [List.map_toArray, List.map_cons, List.map_nil]); first | done | rfl) ?_; (with_reducible refine (gameOf_calls k a0_0 A0_1 c0_1 l0_1 _ _ (Kd.C_below HR.out HB.out) HC.out HT.out).mono ?_); rintro e w2 ⟨g, bm, rfl, hgm, hmp, hne, hgw, hmw, hb⟩; refine ⟨_, rfl, ?_⟩; have HG := Aside0.mk hgm; have HMP := Aside0.mk hmp; have HNE := Aside0.mk hne; have HGW := Aside0.mk hgw; have HMW := Aside0.mk hmw; have n0_ := Aside0.mk (below_step HB.out hb); clear HB; have HB := n0_; clear n0_ hgm hmp hne hgw hmw hb BKL))

    go_ret2
    exact ⟨rfl, HB.out⟩
  | true =>
    rw [if_pos rfl] at h
    by_cases hn : l0_1.length ≤ 12
    case neg => rw [if_neg hn] at h; cases h
    rw [if_pos hn] at h
    replace h := Option.bind_eq_some_iff.mp h
    obtain ⟨⟨x1, y1, z1⟩, hm, h⟩ := h
    simp only [Option.some.injEq, Prod.mk.injEq] at h
    obtain ⟨rfl, rfl⟩ := h
    have HN := Lib.hid hn
    have HM := Aside0.mk hm
    have HS4 := Lib.hid (show 2 ^ l0_1.length - 1 < 4096 by have h1 := Nat.pow_le_pow_right (n := 2) (by decide) hn; omega)
    clear hn hm
    go_enter Try.func51, Try.ntmps51
    go_wp2_with (first | ((with_reducible refine gate_dst (N := 1) rfl ?_); refine box_event ?hg (N := 1) ?hd (cs := #[.int .i64 a0_0, .slice A0_1 l0_1.length c0_1]) (t := 26) ?hr ?_; (case hd => rfl); (case hg => rfl); (case hr => first | (go_simp; done) | (go_simp; rfl)); intro gl hg w1 hbox hb; have n0_ := Aside0.mk (below_step HB.out hb); clear HB; have HB := n0_; clear n0_; have BKL := Aside0.mk hbox; clear hbox hb hg; have hcz0 : w1.cell? ⟨gl, 0, none⟩ = some (.int .i64 a0_0) := (blk_cell BKL.out 0).trans rfl; have hcz1 : w1.cell? ⟨gl, 1, none⟩ = some (.slice A0_1 l0_1.length c0_1) := (blk_cell BKL.out 1).trans rfl; have hfz0 := blk_frozen BKL.out 0; have hfz1 := blk_frozen BKL.out 1) | ((with_reducible refine gate_callee (f := 112) rfl ?_); refine goesL_ (some 8) rfl rfl Try.func112 (by kernel_rfl) rfl #[.agg #[.int .i64 a0_0, .slice A0_1 l0_1.length c0_1]] rfl (by (try simp only [List.map_toArray, List.map_cons, List.map_nil]); first | done | rfl) ?_; (with_reducible refine (gameOf_calls k a0_0 A0_1 c0_1 l0_1 _ _ (Kd.C_below HR.out HB.out) HC.out HT.out).mono ?_); rintro e w2 ⟨g, bm, rfl, hgm, hmp, hne, hgw, hmw, hb⟩; refine ⟨_, rfl, ?_⟩; have HG := Aside0.mk hgm; have HMP := Aside0.mk hmp; have HNE := Aside0.mk hne; have HSU := Aside0.mk (show Setup w A0_1 c0_1 a0_0 l0_1 g bm from ⟨HR.out, HC.out, HN.out, Nat.le_trans HB.out.size hgw, Nat.le_trans HB.out.size hmw, hne⟩); have n0_ := Aside0.mk (below_step HB.out hb); clear HB; have HB := n0_; clear n0_ hgm hmp hne hgw hmw hb BKL) | ((with_reducible refine (full_calls a0_0 A0_1 c0_1 l0_1 (by have := HN.out; omega) g bm _ HG.out).mono ?_); rintro e w3 ⟨rfl, ⟨q', rfl⟩⟩; have GM := Aside0.mk (show Gm w A0_1 c0_1 a0_0 l0_1 g bm _ from ⟨blk_drewN HG.out q', ⟨_, World.ownsMap.kept (row := none) HMP.out (grown_of_below (pw_below_drewN (Below.refl _ _) q') none) (by simp), KnownD.nil _ _⟩, pw_below_drewN HB.out q'⟩)) | ((with_reducible refine ((best_at HSU.out k).calls _ HS4.out x1 y1 z1 HM.out GM.out).mono ?_); rintro e w4 ⟨rfl, hgm, hgr⟩; have GM2 := Aside0.mk hgm; clear hgm hgr GM))

    go_ret2
    exact ⟨rfl, GM2.out.2.2⟩


/-! ### spec_TakeWinner: function 52 -/
def spec_TakeWinner.f (k : Nat) (a : Int) (l : List Int) : Option (Bool × Bool) := (spec_gaTaking.f k a l).bind fun t => if t = true then (gaNewF k a l).bind fun p => some (decide (0 < p.2.getD (2 ^ l.length - 1) 0), true) else some (false, false)
theorem spec_TakeWinner.mono : ∀ a0 a1 k, LeO (spec_TakeWinner.f k a0 a1) (spec_TakeWinner.f (k + 1) a0 a1) := by
  intro a0 a1 k
  unfold spec_TakeWinner.f
  exact LeO.bind (spec_gaTaking.mono _ _ _) fun _ => LeO.ite (LeO.bind (gaNewF_mono k _ _) fun _ => LeO.refl _) (LeO.refl _)
set_option maxHeartbeats 4000000 in
set_option maxRecDepth 100000 in
theorem spec_TakeWinner.calls (k : Nat) (a : Int) (A0 : Option Addr) (c0 : Nat) (l : List Int) (r1 : Bool) (r2 : Bool) (w : World) (hr : Kd.C (Kd.int .i64) w A0 l.length l) (hc : l.length ≤ c0) (h : spec_TakeWinner.f k a l = some (r1, r2)) :
    Calls Try.prog 52 #[.agg #[.int .i64 a, .slice A0 l.length c0]] w fun e w' => e = .returned (.tuple #[.bool r1, .bool r2]) ∧ Below w.heap.size w w' := by
  have hu28 := Try.underlying26
  have hu58 := Try.underlying100
  have HR := Aside0.mk hr
  have HC := Aside0.mk hc
  have HB := Aside0.mk (Below.refl w.heap.size w)
  replace h := Option.bind_eq_some_iff.mp h
  obtain ⟨t, ht, h⟩ := h
  have HT := Aside0.mk ht
  clear hr hc ht
  cases t with
  | false =>
    rw [if_neg (by simp)] at h
    simp only [Option.some.injEq, Prod.mk.injEq] at h
    obtain ⟨rfl, rfl⟩ := h
    go_enter Try.func52, Try.ntmps52
    go_wp2_with (first | ((with_reducible refine gate_dst (N := 1) rfl ?_); refine box_event ?hg (N := 1) ?hd (cs := #[.int .i64 a, .slice A0 l.length c0]) (t := 26) ?hr ?_; (case hd => rfl); (case hg => rfl); (case hr => first | (go_simp; done) | (go_simp; rfl)); intro gb hg w1 hbox hb; have n0_ := Aside0.mk (below_step HB.out hb); clear HB; have HB := n0_; clear n0_; have BKL := Aside0.mk hbox; clear hbox hb hg; have hcz0 : w1.cell? ⟨gb, 0, none⟩ = some (.int .i64 a) := (blk_cell BKL.out 0).trans rfl; have hcz1 : w1.cell? ⟨gb, 1, none⟩ = some (.slice A0 l.length c0) := (blk_cell BKL.out 1).trans rfl) | ((with_reducible refine (spec_gaTaking.calls k a A0 c0 l false _ (Kd.C_below HR.out HB.out) HC.out HT.out).mono ?_); rintro e w2 ⟨rfl, hb⟩; have n0_ := Aside0.mk (below_step HB.out hb); have n1_ := Aside0.mk (blk_below BKL.out hb); clear HB BKL hb; have HB := n0_; have BKL := n1_; clear n0_ n1_; have hcy0 : w2.cell? ⟨gb, 0, none⟩ = some (.int .i64 a) := (blk_cell BKL.out 0).trans rfl; have hcy1 : w2.cell? ⟨gb, 1, none⟩ = some (.slice A0 l.length c0) := (blk_cell BKL.out 1).trans rfl))
    go_ret2
    exact ⟨rfl, HB.out⟩
  | true =>
    rw [if_pos rfl] at h
    replace h := Option.bind_eq_some_iff.mp h
    obtain ⟨⟨hs, ls⟩, hnew, h⟩ := h
    have hn : l.length ≤ 12 := by
      unfold gaNewF at hnew
      by_cases hn : l.length ≤ 12
      · exact hn
      · rw [if_neg hn] at hnew; cases hnew
    have hN1 : 1 ≤ 2 ^ l.length := Nat.one_le_two_pow
    have hN2 : 2 ^ l.length ≤ 4096 := by have h1 := Nat.pow_le_pow_right (n := 2) (by decide) hn; omega
    have HNEW := Aside0.mk hnew
    have HN12 := Lib.hid hn
    obtain ⟨N, hN⟩ : ∃ N, N = 2 ^ l.length := ⟨_, rfl⟩
    rw [← hN] at hN1 hN2
    have HN1 := Lib.hid hN1
    have HN2 := Lib.hid hN2
    have HNN := Lib.hid hN
    obtain ⟨M, hM⟩ : ∃ M, M = N - 1 := ⟨_, rfl⟩
    have e1 : wrap64 ((N : Int) - 1) = (M : Int) := by unfold wrap64; omega
    have q1 : (M : Int) < (N : Int) := by omega
    have p1 : 0 ≤ (M : Int) := by omega
    have HMN := Lib.hid (show M < N by omega)
    replace p1 := eq_true p1
    replace q1 := eq_true q1
    simp only [Option.some.injEq, Prod.mk.injEq] at h
    obtain ⟨rfl, rfl⟩ := h
    rw [← hN, ← hM]
    obtain ⟨lv, hlv⟩ : ∃ lv, lv = ls.getD M 0 := ⟨_, rfl⟩
    rw [← hlv]
    have HLV := Lib.hid hlv
    clear hN1 hN2 hn hnew hN hM hlv
    go_enter Try.func52, Try.ntmps52
    go_wp2_with (first | ((with_reducible refine gate_dst (N := 1) rfl ?_); refine box_event ?hg (N := 1) ?hd (cs := #[.int .i64 a, .slice A0 l.length c0]) (t := 26) ?hr ?_; (case hd => rfl); (case hg => rfl); (case hr => first | (go_simp; done) | (go_simp; rfl)); intro gb hg w1 hbox hb; have n0_ := Aside0.mk (below_step HB.out hb); clear HB; have HB := n0_; clear n0_; have BKL := Aside0.mk hbox; clear hbox hb hg; have hcz0 : w1.cell? ⟨gb, 0, none⟩ = some (.int .i64 a) := (blk_cell BKL.out 0).trans rfl; have hcz1 : w1.cell? ⟨gb, 1, none⟩ = some (.slice A0 l.length c0) := (blk_cell BKL.out 1).trans rfl) | ((with_reducible refine (spec_gaTaking.calls k a A0 c0 l true _ (Kd.C_below HR.out HB.out) HC.out HT.out).mono ?_); rintro e w2 ⟨rfl, hb⟩; have n0_ := Aside0.mk (below_step HB.out hb); have n1_ := Aside0.mk (blk_below BKL.out hb); clear HB BKL hb; have HB := n0_; have BKL := n1_; clear n0_ n1_; have hcy0 : w2.cell? ⟨gb, 0, none⟩ = some (.int .i64 a) := (blk_cell BKL.out 0).trans rfl; have hcy1 : w2.cell? ⟨gb, 1, none⟩ = some (.slice A0 l.length c0) := (blk_cell BKL.out 1).trans rfl) | ((with_reducible refine (gaNew_calls k a A0 c0 l hs ls _ (Kd.C_below HR.out HB.out) HC.out HNEW.out).mono ?_); rw [← HNN.out]; rintro e w3 ⟨g, gh, gl, rfl, hga, hb⟩; have HG := Aside0.mk hga; have n0_ := Aside0.mk (below_step HB.out hb); have n1_ := Aside0.mk (blk_below BKL.out hb); clear HB BKL hga hb hcz0 hcz1 hcy0 hcy1; have HB := n0_; have BKL := n1_; clear n0_ n1_; have hcx1 : w3.cell? ⟨gb, 1, none⟩ = some (.slice A0 l.length c0) := (blk_cell BKL.out 1).trans rfl; have hcg3 : w3.cell? ⟨g, 3, none⟩ = some (.slice (some ⟨gl, 0, none⟩) N N) := (blk_cell HG.out.1 3).trans rfl; have hcg2 : w3.cell? ⟨g, 2, none⟩ = some (.slice (some ⟨gh, 0, none⟩) N N) := (blk_cell HG.out.1 2).trans rfl))
    have HB2 := Aside0.mk (below_drew1 HB.out)
    have HG2 := Aside0.mk HG.out.drew
    clear HB HG BKL hcx1 hcg3 hcg2
    have hat := HG2.out.atL M HMN.out
    rw [← HLV.out] at hat
    have HAT := Aside0.mk hat
    clear hat
    refine start_ (n := 15) (S := fun w' => w'.cell? ⟨g, 3, none⟩ = some (.slice (some ⟨gl, 0, none⟩) N N) ∧ w'.cell? ⟨gl, M, none⟩ = some (.int .i64 lv)) (ds := []) #[false, false, false, false, false, false, false, false, false, false, false, false, false, false, false] (by kernel_rfl) rfl rfl ⟨(blk_cell HG2.out.1 3).trans rfl, HAT.out⟩ (fun hHeld => ?_)
    refine pure_ (i := 0) (N := some 10) (v := ?_) (a' := ?_) #[true, false, false, false, false, false, false, false, false, false, false, false, false, false, false] rfl rfl (by kernel_rfl) (fun _ _ _ h => h) (Or.inl ⟨by rfl, ?_⟩) ?_ ?_
    rotate_left
    · intro w'
      go_simp
      with_reducible rfl
    rotate_left
    · simp only [Act.put, List.setIfInBounds_toArray, List.set_cons_zero, List.set_cons_succ, i64_w, i32_w]
      rfl
    refine pure_ (i := 1) (N := some 11) (v := ?_) (a' := ?_) #[true, true, false, false, false, false, false, false, false, false, false, false, false, false, false] rfl rfl (by kernel_rfl) (fun _ _ _ h => h) (Or.inl ⟨by rfl, ?_⟩) ?_ ?_
    rotate_left
    · intro w'
      go_simp
      with_reducible rfl
    rotate_left
    · simp only [Act.put, List.setIfInBounds_toArray, List.set_cons_zero, List.set_cons_succ, i64_w, i32_w]
      rfl
    refine pure_ (i := 2) (N := some 12) (v := ?_) (a' := ?_) #[true, true, true, false, false, false, false, false, false, false, false, false, false, false, false] rfl rfl (by kernel_rfl) (fun _ _ _ h => h) (Or.inl ⟨by rfl, ?_⟩) ?_ ?_
    rotate_left
    · intro w'
      go_simp
      with_reducible rfl
    rotate_left
    · simp only [Act.put, List.setIfInBounds_toArray, List.set_cons_zero, List.set_cons_succ, i64_w, i32_w]
      rfl
    refine take_ (i := 3) (N := some 13) (v := ?_) (a' := ?_) #[true, true, true, true, false, false, false, false, false, false, false, false, false, false, false] rfl rfl (by kernel_rfl) (fun _ _ _ h => h) (Or.inl ⟨by rfl, ?_⟩) hHeld ?_ ?_
    rotate_left
    · rintro w' ⟨s0, s1⟩
      go_simp
      with_reducible rfl
    rotate_left
    · simp only [Act.put, List.setIfInBounds_toArray, List.set_cons_zero, List.set_cons_succ, i64_w, i32_w]
      rfl
    refine pure_ (i := 4) (N := some 14) (v := ?_) (a' := ?_) #[true, true, true, true, true, false, false, false, false, false, false, false, false, false, false] rfl rfl (by kernel_rfl) (fun _ _ _ h => h) (Or.inl ⟨by rfl, ?_⟩) ?_ ?_
    rotate_left
    · intro w'
      go_simp
      with_reducible rfl
    rotate_left
    · simp only [Act.put, List.setIfInBounds_toArray, List.set_cons_zero, List.set_cons_succ, i64_w, i32_w]
      rfl
    refine pure_ (i := 5) (N := some 15) (v := ?_) (a' := ?_) #[true, true, true, true, true, true, false, false, false, false, false, false, false, false, false] rfl rfl (by kernel_rfl) (fun _ _ _ h => h) (Or.inl ⟨by rfl, ?_⟩) ?_ ?_
    rotate_left
    · intro w'
      go_simp
      with_reducible rfl
    rotate_left
    · simp only [Act.put, List.setIfInBounds_toArray, List.set_cons_zero, List.set_cons_succ, i64_w, i32_w]
      rfl
    refine pure_ (i := 6) (N := some 16) (v := ?_) (a' := ?_) #[true, true, true, true, true, true, true, false, false, false, false, false, false, false, false] rfl rfl (by kernel_rfl) (fun _ _ _ h => h) (Or.inl ⟨by rfl, ?_⟩) ?_ ?_
    rotate_left
    · intro w'
      go_simp
      with_reducible rfl
    rotate_left
    · simp only [Act.put, List.setIfInBounds_toArray, List.set_cons_zero, List.set_cons_succ, i64_w, i32_w]
      rfl
    refine take_ (i := 7) (N := some 17) (v := ?_) (a' := ?_) #[true, true, true, true, true, true, true, true, false, false, false, false, false, false, false] rfl rfl (by kernel_rfl) (fun _ _ _ h => h) (Or.inl ⟨by rfl, ?_⟩) hHeld ?_ ?_
    rotate_left
    · rintro w' ⟨s0, s1⟩
      go_simp
      with_reducible rfl
    rotate_left
    · simp only [Act.put, List.setIfInBounds_toArray, List.set_cons_zero, List.set_cons_succ, i64_w, i32_w]
      rfl
    refine pure_ (i := 8) (N := some 18) (v := ?_) (a' := ?_) #[true, true, true, true, true, true, true, true, true, false, false, false, false, false, false] rfl rfl (by kernel_rfl) (fun _ _ _ h => h) (Or.inl ⟨by rfl, ?_⟩) ?_ ?_
    rotate_left
    · intro w'
      go_simp
      with_reducible rfl
    rotate_left
    · simp only [Act.put, List.setIfInBounds_toArray, List.set_cons_zero, List.set_cons_succ, i64_w, i32_w]
      rfl
    refine pure_ (i := 9) (N := some 19) (v := ?_) (a' := ?_) #[true, true, true, true, true, true, true, true, true, true, false, false, false, false, false] rfl rfl (by kernel_rfl) (fun _ _ _ h => h) (Or.inl ⟨by rfl, ?_⟩) ?_ ?_
    rotate_left
    · intro w'
      go_simp
      with_reducible rfl
    rotate_left
    · simp only [Act.put, List.setIfInBounds_toArray, List.set_cons_zero, List.set_cons_succ, i64_w, i32_w]
      rfl
    refine pure_ (i := 10) (N := some 20) (v := ?_) (a' := ?_) #[true, true, true, true, true, true, true, true, true, true, true, false, false, false, false] rfl rfl (by kernel_rfl) (fun _ _ _ h => h) (Or.inl ⟨by rfl, ?_⟩) ?_ ?_
    rotate_left
    · intro w'
      go_simp
      with_reducible rfl
    rotate_left
    · simp only [Act.put, List.setIfInBounds_toArray, List.set_cons_zero, List.set_cons_succ, i64_w, i32_w]
      rfl
    refine take_ (i := 11) (N := some 21) (v := ?_) (a' := ?_) #[true, true, true, true, true, true, true, true, true, true, true, true, false, false, false] rfl rfl (by kernel_rfl) (fun _ _ _ h => h) (Or.inl ⟨by rfl, ?_⟩) hHeld ?_ ?_
    rotate_left
    · rintro w' ⟨s0, s1⟩
      go_simp
      with_reducible rfl
    rotate_left
    · simp only [Act.put, List.setIfInBounds_toArray, List.set_cons_zero, List.set_cons_succ, i64_w, i32_w]
      rfl
    refine pure_ (i := 12) (N := some 22) (v := ?_) (a' := ?_) #[true, true, true, true, true, true, true, true, true, true, true, true, true, false, false] rfl rfl (by kernel_rfl) (fun _ _ _ h => h) (Or.inl ⟨by rfl, ?_⟩) ?_ ?_
    rotate_left
    · intro w'
      go_simp
      with_reducible rfl
    rotate_left
    · simp only [Act.put, List.setIfInBounds_toArray, List.set_cons_zero, List.set_cons_succ, i64_w, i32_w]
      rfl
    refine pure_ (i := 13) (N := some 2) (v := ?_) (a' := ?_) #[true, true, true, true, true, true, true, true, true, true, true, true, true, true, false] rfl rfl (by kernel_rfl) (fun _ _ _ h => h) (Or.inl ⟨by rfl, ?_⟩) ?_ ?_
    rotate_left
    · intro w'
      go_simp
      with_reducible rfl
    rotate_left
    · simp only [Act.put, List.setIfInBounds_toArray, List.set_cons_zero, List.set_cons_succ, i64_w, i32_w]
      rfl
    refine pure_ (i := 14) (N := some 3) (v := ?_) (a' := ?_) #[true, true, true, true, true, true, true, true, true, true, true, true, true, true, true] rfl rfl (by kernel_rfl) (fun _ _ _ h => h) (Or.inl ⟨by rfl, ?_⟩) ?_ ?_
    rotate_left
    · intro w'
      go_simp
      with_reducible rfl
    rotate_left
    · simp only [Act.put, List.setIfInBounds_toArray, List.set_cons_zero, List.set_cons_succ, i64_w, i32_w]
      rfl
    refine done_ (by kernel_rfl) ?_
    try go_wp2
    go_ret2
    exact ⟨rfl, HB2.out⟩


/-! ### impl_GoodTakes: function 53 -/
def goodGo (tk : Nat → Option (Bool × Int × Int)) : Nat → Nat → Option (List Int)
  | 0, _ => some []
  | d + 1, i => (tk i).bind fun o => (goodGo tk d (i + 1)).bind fun r => some (if o.1 = true then (i : Int) :: r else r)
theorem goodGo_mono {tk tk' : Nat → Option (Bool × Int × Int)} (h : ∀ i, LeO (tk i) (tk' i)) : ∀ d i, LeO (goodGo tk d i) (goodGo tk' d i)
  | 0, _ => LeO.refl _
  | d + 1, i => LeO.bind (h i) fun _ => LeO.bind (goodGo_mono h d (i + 1)) fun _ => LeO.refl _
def impl_GoodTakes.f (k : Nat) (a0 : Int) (l0 : List Int) : Option (List Int × Bool) := (impl_isTaking.f k a0 l0).bind fun t => if t = true then (if l0.length ≤ 12 then (goodGo (takeX (bestF k a0 l0) k a0 l0 (2 ^ l0.length - 1)) l0.length 0).bind fun r => some (r, true) else none) else some ([], false)
theorem impl_GoodTakes.mono : ∀ a0 a1 k, LeO (impl_GoodTakes.f k a0 a1) (impl_GoodTakes.f (k + 1) a0 a1) := by
  intro a0 a1 k
  unfold impl_GoodTakes.f
  exact LeO.bind (impl_isTaking.mono _ _ _) fun _ => LeO.ite (LeO.ite (LeO.bind (goodGo_mono (takeX_mono (bestF_mono k a0 a1) k a0 a1 _) _ _) fun _ => LeO.refl _) (LeO.refl _)) (LeO.refl _)
theorem take_calls3 {w0 : World} {A0 : Option Addr} {c0 : Nat} {a : Int} {l : List Int} {g bm : Nat} (hsu : Setup w0 A0 c0 a l g bm) (k s t : Nat) (hs : s < 4096) (ht : t < 12) (hbit : ¬ s / 2 ^ t % 2 = 0) (x : Bool) (y z : Int) (ho : takeX (bestF k a l) k a l s t = some (x, y, z)) (w : World) (hg : Gm w0 A0 c0 a l g bm w) :
    Calls Try.prog 119 #[.pointer (some ⟨g, 0, none⟩), .int .u64 (s : Int), .int .i64 (t : Int)] w fun e w' => e = .returned (.agg #[.bool x, .int .i64 y, .int .i64 z]) ∧ Gm w0 A0 c0 a l g bm w' ∧ w.grownBy w' (some bm) :=
  take_calls hsu k (best_at hsu k) s t hs ht hbit k (x, y, z) ho w hg
set_option maxHeartbeats 4000000 in
set_option maxRecDepth 100000 in
theorem impl_GoodTakes.calls (k : Nat) (a0_0 : Int) (A0_1 : Option Addr) (c0_1 : Nat) (l0_1 : List Int) (r1 : List Int) (r2 : Bool) (w : World) (hr0_1 : Kd.C (Kd.int .i64) w A0_1 l0_1.length l0_1) (hc0_1 : l0_1.length ≤ c0_1) (h : impl_GoodTakes.f k a0_0 l0_1 = some (r1, r2)) :
    Calls Try.prog 53 #[.agg #[.int .i64 a0_0, .slice A0_1 l0_1.length c0_1]] w fun e w' => ∃ v0_ : Value, e = .returned (.tuple #[v0_, .bool r2]) ∧ Kd.R (Kd.int .i64) 3 w' w.heap.size (fun _ => True) v0_ r1 ∧ Below w.heap.size w w' := by
  have hu28 := Try.underlying26
  have hu60 := Try.underlying95
  have hfl : ∀ (W : World) (x : Bool) (y z : Int), (Instr.field 95 (.agg #[.bool x, .int .i64 y, .int .i64 z]) 0).run Try.prog W = .ok (.bool x) W := fun _ _ _ _ => by kernel_rfl
  have HR := Aside0.mk hr0_1
  have HC := Aside0.mk hc0_1
  have HB := Aside0.mk (Below.refl w.heap.size w)
  replace h := Option.bind_eq_some_iff.mp h
  obtain ⟨t, ht, h⟩ := h
  have HT := Aside0.mk ht
  clear hr0_1 hc0_1 ht
  cases t with
  | false =>
    rw [if_neg (by simp)] at h
    simp only [Option.some.injEq, Prod.mk.injEq] at h
    obtain ⟨rfl, rfl⟩ := h
    go_enter Try.func53, Try.ntmps53
    go_wp2_with (first | ((with_reducible refine gate_dst (N := 1) rfl ?_); refine box_event ?hg (N := 1) ?hd (cs := #[.int .i64 a0_0, .slice A0_1 l0_1.length c0_1]) (t := 26) ?hr ?_; (case hd => rfl); (case hg => rfl); (case hr => first | (go_simp; done) | (go_simp; rfl)); intro gl hg w1 hbox hb; have n0_ := Aside0.mk (below_step HB.out hb); clear HB; have HB := n0_; clear n0_; have BKL := Aside0.mk hbox; clear hbox hb hg; have hcz0 : w1.cell? ⟨gl, 0, none⟩ = some (.int .i64 a0_0) := (blk_cell BKL.out 0).trans rfl; have hcz1 : w1.cell? ⟨gl, 1, none⟩ = some (.slice A0_1 l0_1.length c0_1) := (blk_cell BKL.out 1).trans rfl; have hfz0 := blk_frozen BKL.out 0; have hfz1 := blk_frozen BKL.out 1) | ((with_reducible refine gate_callee (f := 112) rfl ?_); refine goesL_ (some 10) rfl rfl Try.func112 (by kernel_rfl) rfl #[.agg #[.int .i64 a0_0, .slice A0_1 l0_1.length c0_1]] rfl (by (try simp only [List.map_toArray, List.map_cons, List.map_nil]); first | done | rfl) ?_; (with_reducible refine (gameOf_calls k a0_0 A0_1 c0_1 l0_1 _ _ (Kd.C_below HR.out HB.out) HC.out HT.out).mono ?_); rintro e w2 ⟨g, bm, rfl, hgm, hmp, hne, hgw, hmw, hb⟩; refine ⟨_, rfl, ?_⟩; have HG := Aside0.mk hgm; have n0_ := Aside0.mk (below_step HB.out hb); clear HB; have HB := n0_; clear n0_ hgm hmp hne hgw hmw hb BKL))
    go_ret2
    exact ⟨_, rfl, Kd.R_nil _ _ _ _ _, HB.out⟩
  | true =>
    rw [if_pos rfl] at h
    by_cases hn : l0_1.length ≤ 12
    case neg => rw [if_neg hn] at h; cases h
    rw [if_pos hn] at h
    replace h := Option.bind_eq_some_iff.mp h
    obtain ⟨rr, hm, h⟩ := h
    simp only [Option.some.injEq, Prod.mk.injEq] at h
    obtain ⟨rfl, rfl⟩ := h
    have HN := Lib.hid hn
    have HM := Aside0.mk hm
    obtain ⟨S, hS⟩ : ∃ S, S = 2 ^ l0_1.length - 1 := ⟨_, rfl⟩
    have HS4 := Lib.hid (show S < 4096 by have h1 := Nat.pow_le_pow_right (n := 2) (by decide) hn; rw [hS]; omega)
    have HSS := Lib.hid hS
    clear hn hm hS
    go_enter Try.func53, Try.ntmps53
    go_wp2_with (first | ((with_reducible refine gate_dst (N := 1) rfl ?_); refine box_event ?hg (N := 1) ?hd (cs := #[.int .i64 a0_0, .slice A0_1 l0_1.length c0_1]) (t := 26) ?hr ?_; (case hd => rfl); (case hg => rfl); (case hr => first | (go_simp; done) | (go_simp; rfl)); intro gl hg w1 hbox hb; have n0_ := Aside0.mk (below_step HB.out hb); clear HB; have HB := n0_; clear n0_; have BKL := Aside0.mk hbox; clear hbox hb hg; have hcz0 : w1.cell? ⟨gl, 0, none⟩ = some (.int .i64 a0_0) := (blk_cell BKL.out 0).trans rfl; have hcz1 : w1.cell? ⟨gl, 1, none⟩ = some (.slice A0_1 l0_1.length c0_1) := (blk_cell BKL.out 1).trans rfl; have hfz0 := blk_frozen BKL.out 0; have hfz1 := blk_frozen BKL.out 1) | ((with_reducible refine gate_callee (f := 112) rfl ?_); refine goesL_ (some 10) rfl rfl Try.func112 (by kernel_rfl) rfl #[.agg #[.int .i64 a0_0, .slice A0_1 l0_1.length c0_1]] rfl (by (try simp only [List.map_toArray, List.map_cons, List.map_nil]); first | done | rfl) ?_; (with_reducible refine (gameOf_calls k a0_0 A0_1 c0_1 l0_1 _ _ (Kd.C_below HR.out HB.out) HC.out HT.out).mono ?_); rintro e w2 ⟨g, bm, rfl, hgm, hmp, hne, hgw, hmw, hb⟩; refine ⟨_, rfl, ?_⟩; have HSU := Aside0.mk (show Setup w A0_1 c0_1 a0_0 l0_1 g bm from ⟨HR.out, HC.out, HN.out, Nat.le_trans HB.out.size hgw, Nat.le_trans HB.out.size hmw, hne⟩); have HG := Aside0.mk (show Gm w A0_1 c0_1 a0_0 l0_1 g bm w2 from ⟨hgm, ⟨.map [], hmp, KnownD.nil _ _⟩, below_step HB.out hb⟩); have BKL2 := Aside0.mk (blk_below BKL.out hb); clear BKL HB hgm hmp hne hgw hmw hb; have hcy1 : w2.cell? ⟨gl, 1, none⟩ = some (.slice A0_1 l0_1.length c0_1) := (blk_cell BKL2.out 1).trans rfl) | ((with_reducible refine gate_dst (N := 15) rfl ?_); refine Kd.R_lit (Kd.int .i64) _ 3 ?hg (N := 15) ?hd (xs := ([] : List (Int))) (inner := []) (ok := (fun k_ => k_ ≠ g ∧ k_ ≠ bm)) (okp := fun _ => False) ?hr ?hp (fun _ hk => hk.elim) ⟨Nat.ne_of_gt HG.out.g_lt, Nat.ne_of_gt HG.out.bm_lt⟩ (Below.refl _ _) (Nat.le_refl _) (by simp) ?_; (case hd => rfl); (case hg => rfl); (case hr => first | (go_simp; done) | (go_simp; rfl)); (case hp => exact (Reps.none _ _)); intro v15 w3 ho hb hg_ hnew_; clear hg_ hnew_; have HRO := Aside0.mk (Kd.R_lower ho HG.out.2.2.size); have n0_ := Aside0.mk (HG.out.below hb); have hcx1 : w3.cell? ⟨gl, 1, none⟩ = some (.slice A0_1 l0_1.length c0_1) := (blk_cell (blk_below BKL2.out hb) 1).trans rfl; clear HG BKL2 ho hb; have HG := n0_; clear n0_))
    clear hcz0 hcz1 hfz0 hfz1 hcy1 hcx1
    go_loopg [6, 19] l0_1.length (fun gg v6 v19 wr => ∃ (i : Nat) (acc r2 : List Int), i ≤ l0_1.length ∧ l0_1.length - i ≤ gg ∧ v19 = .int .i64 (i : Int) ∧ Aside0 (goodGo (takeX (bestF k a0_0 l0_1) k a0_0 l0_1 S) (l0_1.length - i) i = some r2) ∧ Aside0 (acc ++ r2 = rr) ∧ Aside0 (acc.length ≤ i) ∧ Aside0 (Gm w A0_1 c0_1 a0_0 l0_1 g bm wr) ∧ Aside0 (Kd.R (Kd.int .i64) 3 wr w.heap.size (fun k_ => k_ ≠ g ∧ k_ ≠ bm) v6 acc))
    case atStart => exact ⟨0, [], rr, Nat.zero_le _, by omega, rfl, ⟨by rw [HSS.out]; exact HM.out⟩, ⟨rfl⟩, ⟨Nat.le_refl _⟩, ⟨HG.out⟩, ⟨HRO.out⟩⟩
    case round =>
      clear HG HRO
      obtain ⟨i, acc, r2, hi, hgg, rfl, HGO, HAC, HAL, HG, HRO⟩ := hrel
      by_cases hlt : i < l0_1.length
      · have d1 : decide ((i : Int) < (l0_1.length : Int)) = true := decide_eq_true (by omega)
        have hgo := HGO.out
        rw [show l0_1.length - i = (l0_1.length - (i + 1)) + 1 by omega, goodGo] at hgo
        replace hgo := Option.bind_eq_some_iff.mp hgo
        obtain ⟨⟨x, y, z⟩, htk, hgo⟩ := hgo
        replace hgo := Option.bind_eq_some_iff.mp hgo
        obtain ⟨r3, h3, hgo⟩ := hgo
        injection hgo with hgo
        have HTK := Aside0.mk htk
        have H3 := Aside0.mk h3
        have HLT := Lib.hid hlt
        have HI12 := Lib.hid (show i < 12 by have := HN.out; omega)
        have HBIT := Lib.hid (show ¬ S / 2 ^ i % 2 = 0 by rw [HSS.out]; exact full_bit _ _ hlt)
        have HWI := Lib.hid (show wrap64 ((i : Int) + 1) = ((i + 1 : Nat) : Int) by have := HI12.out; unfold wrap64; omega)
        clear hlt hi htk h3 HGO
        cases hx0 : x with
        | true =>
          subst hx0
          rw [if_pos rfl] at hgo
          go_wp2_with (first | ((with_reducible refine (full_calls a0_0 A0_1 c0_1 l0_1 (by have := HN.out; omega) g bm _ HG.out.game).mono ?_); rw [← HSS.out]; rintro e w4 ⟨rfl, ⟨q', rfl⟩⟩) | ((with_reducible refine (take_calls3 HSU.out k S i HS4.out HI12.out HBIT.out true y z HTK.out _ (HG.out.drewN _)).mono ?_); rintro e w5 ⟨rfl, hgm, hgr⟩; have n0_ := Aside0.mk hgm; have n1_ := Aside0.mk (Kd.R_grown (Kd.R_drewN HRO.out _) hgr (fun k_ hk_ e_ => hk_.2 (by injection e_))); clear HG HRO hgm hgr; have HG := n0_; have HRO := n1_; clear n0_ n1_) | ((with_reducible refine gate_builtin (b := .append) (xs := #[.tmp 28, .tmp 30]) rfl ?_); at_builtin; refine Kd.R_append (Kd.int .i64) (w0 := w) w.heap.size rfl (.tmp 28) (.tmp 30) 24 3 (.int .i64 0) 8 rfl Try.underlying24 info3 rfl (by decide) (by omega) u6 acc (i : Int) [.int .i64 (i : Int)] (fun k_ => k_ ≠ g ∧ k_ ≠ bm) (fun _ => False) rfl rfl ?aP (fun _ hk => hk.elim) ?aF ?aO ?aB ?aS ?aL ?_; (case aP => exact rfl); (case aB => exact HG.out.2.2); (case aF => exact (fun k_ hk => ⟨Nat.ne_of_gt (Nat.lt_of_lt_of_le HG.out.g_lt hk), Nat.ne_of_gt (Nat.lt_of_lt_of_le HG.out.bm_lt hk)⟩)); (case aO => exact HRO.out); (case aS => exact HG.out.2.2.size); (case aL => exact (by have := HI12.out; have := HAL.out; omega)); intro v2 w2 ho hb hg hat; have n0_ := Aside0.mk (HG.out.row hg (fun k_ e_ => ⟨HRO.out.1 k_ e_, Kd.R_base HRO.out k_ e_⟩)); have n1_ := Aside0.mk ho; clear HG HRO ho hb hg hat; have HG := n0_; have HRO := n1_; clear n0_ n1_))
          go_roundg (l0_1.length - (i + 1))
          case measure => have := HLT.out; omega
          case rel => exact ⟨i + 1, acc ++ [(i : Int)], r3, HLT.out, Nat.le_refl _, by rw [← HWI.out], H3, ⟨by rw [← HAC.out, ← hgo, List.append_assoc]; rfl⟩, ⟨by rw [List.length_append]; have := HAL.out; simp; omega⟩, HG, HRO⟩
        | false =>
          subst hx0
          rw [if_neg (by simp)] at hgo
          go_wp2_with (first | ((with_reducible refine (full_calls a0_0 A0_1 c0_1 l0_1 (by have := HN.out; omega) g bm _ HG.out.game).mono ?_); rw [← HSS.out]; rintro e w4 ⟨rfl, ⟨q', rfl⟩⟩) | ((with_reducible refine (take_calls3 HSU.out k S i HS4.out HI12.out HBIT.out false y z HTK.out _ (HG.out.drewN _)).mono ?_); rintro e w5 ⟨rfl, hgm, hgr⟩; have n0_ := Aside0.mk hgm; have n1_ := Aside0.mk (Kd.R_grown (Kd.R_drewN HRO.out _) hgr (fun k_ hk_ e_ => hk_.2 (by injection e_))); clear HG HRO hgm hgr; have HG := n0_; have HRO := n1_; clear n0_ n1_))
          go_roundg (l0_1.length - (i + 1))
          case measure => have := HLT.out; omega
          case rel => exact ⟨i + 1, acc, r3, HLT.out, Nat.le_refl _, by rw [← HWI.out], H3, ⟨by rw [← HAC.out, ← hgo]⟩, ⟨by have := HAL.out; omega⟩, HG, HRO⟩
      · have d1 : decide ((i : Int) < (l0_1.length : Int)) = false := decide_eq_false (by omega)
        obtain rfl : i = l0_1.length := by omega
        have hgo := HGO.out
        rw [Nat.sub_self, goodGo] at hgo
        injection hgo with hgo
        subst hgo
        have hac := HAC.out
        rw [List.append_nil] at hac
        have HAA := Aside0.mk hac
        clear hac HGO HAC hlt hi
        go_wp2
        go_ret2
        exact ⟨_, rfl, by rw [← HAA.out]; exact Kd.R_mono HRO.out (fun _ _ => trivial), HG.out.2.2⟩


/-! ### spec_GoodTakes: function 54 -/
def ggGo (hs : List Bool) (ls : List Int) (M : Nat) : Nat → Nat → List Int
  | 0, _ => []
  | d + 1, i => if hs.getD (M - 2 ^ i) false = true ∨ ls.getD (M - 2 ^ i) 0 < 0 then (i : Int) :: ggGo hs ls M d (i + 1) else ggGo hs ls M d (i + 1)
def spec_GoodTakes.f (k : Nat) (a : Int) (l : List Int) : Option (List Int × Bool) := (spec_gaTaking.f k a l).bind fun t => if t = true then (gaNewF k a l).bind fun p => some (ggGo p.1 p.2 (2 ^ l.length - 1) l.length 0, true) else some ([], false)
theorem spec_GoodTakes.mono : ∀ a0 a1 k, LeO (spec_GoodTakes.f k a0 a1) (spec_GoodTakes.f (k + 1) a0 a1) := by
  intro a0 a1 k
  unfold spec_GoodTakes.f
  exact LeO.bind (spec_gaTaking.mono _ _ _) fun _ => LeO.ite (LeO.bind (gaNewF_mono k _ _) fun _ => LeO.refl _) (LeO.refl _)
set_option maxHeartbeats 4000000 in
set_option maxRecDepth 100000 in
theorem spec_GoodTakes.calls (k : Nat) (a : Int) (A0 : Option Addr) (c0 : Nat) (l : List Int) (r1 : List Int) (r2 : Bool) (w : World) (hr : Kd.C (Kd.int .i64) w A0 l.length l) (hc : l.length ≤ c0) (h : spec_GoodTakes.f k a l = some (r1, r2)) :
    Calls Try.prog 54 #[.agg #[.int .i64 a, .slice A0 l.length c0]] w fun e w' => ∃ v0_ : Value, e = .returned (.tuple #[v0_, .bool r2]) ∧ Kd.R (Kd.int .i64) 3 w' w.heap.size (fun _ => True) v0_ r1 ∧ Below w.heap.size w w' := by
  have hu28 := Try.underlying26
  have hu58 := Try.underlying100
  have HR := Aside0.mk hr
  have HC := Aside0.mk hc
  have HB := Aside0.mk (Below.refl w.heap.size w)
  replace h := Option.bind_eq_some_iff.mp h
  obtain ⟨t, ht, h⟩ := h
  have HT := Aside0.mk ht
  clear hr hc ht
  cases t with
  | false =>
    rw [if_neg (by simp)] at h
    simp only [Option.some.injEq, Prod.mk.injEq] at h
    obtain ⟨rfl, rfl⟩ := h
    go_enter Try.func54, Try.ntmps54
    go_wp2_with (first | ((with_reducible refine gate_dst (N := 1) rfl ?_); refine box_event ?hg (N := 1) ?hd (cs := #[.int .i64 a, .slice A0 l.length c0]) (t := 26) ?hr ?_; (case hd => rfl); (case hg => rfl); (case hr => first | (go_simp; done) | (go_simp; rfl)); intro gb hg w1 hbox hb; have n0_ := Aside0.mk (below_step HB.out hb); clear HB; have HB := n0_; clear n0_; have BKL := Aside0.mk hbox; clear hbox hb hg; have hcz0 : w1.cell? ⟨gb, 0, none⟩ = some (.int .i64 a) := (blk_cell BKL.out 0).trans rfl; have hcz1 : w1.cell? ⟨gb, 1, none⟩ = some (.slice A0 l.length c0) := (blk_cell BKL.out 1).trans rfl) | ((with_reducible refine (spec_gaTaking.calls k a A0 c0 l false _ (Kd.C_below HR.out HB.out) HC.out HT.out).mono ?_); rintro e w2 ⟨rfl, hb⟩; have n0_ := Aside0.mk (below_step HB.out hb); have n1_ := Aside0.mk (blk_below BKL.out hb); clear HB BKL hb; have HB := n0_; have BKL := n1_; clear n0_ n1_; have hcy0 : w2.cell? ⟨gb, 0, none⟩ = some (.int .i64 a) := (blk_cell BKL.out 0).trans rfl; have hcy1 : w2.cell? ⟨gb, 1, none⟩ = some (.slice A0 l.length c0) := (blk_cell BKL.out 1).trans rfl))
    go_ret2
    exact ⟨_, rfl, Kd.R_nil _ _ _ _ _, HB.out⟩
  | true =>
    rw [if_pos rfl] at h
    replace h := Option.bind_eq_some_iff.mp h
    obtain ⟨⟨hs, ls⟩, hnew, h⟩ := h
    have hn : l.length ≤ 12 := by
      unfold gaNewF at hnew
      by_cases hn : l.length ≤ 12
      · exact hn
      · rw [if_neg hn] at hnew; cases hnew
    have hN1 : 1 ≤ 2 ^ l.length := Nat.one_le_two_pow
    have hN2 : 2 ^ l.length ≤ 4096 := by have h1 := Nat.pow_le_pow_right (n := 2) (by decide) hn; omega
    have HNEW := Aside0.mk hnew
    have HN12 := Lib.hid hn
    obtain ⟨N, hN⟩ : ∃ N, N = 2 ^ l.length := ⟨_, rfl⟩
    rw [← hN] at hN1 hN2
    have HN1 := Lib.hid hN1
    have HN2 := Lib.hid hN2
    have HNN := Lib.hid hN
    obtain ⟨M, hM⟩ : ∃ M, M = N - 1 := ⟨_, rfl⟩
    have e1 : wrap64 ((N : Int) - 1) = (M : Int) := by unfold wrap64; omega
    have q1 : (M : Int) < (N : Int) := by omega
    have p1 : 0 ≤ (M : Int) := by omega
    have HMN := Lib.hid (show M < N by omega)
    replace p1 := eq_true p1
    replace q1 := eq_true q1
    simp only [Option.some.injEq, Prod.mk.injEq] at h
    obtain ⟨rfl, rfl⟩ := h
    rw [← hN, ← hM]
    obtain ⟨rr, hrr⟩ : ∃ rr, rr = ggGo hs ls M l.length 0 := ⟨_, rfl⟩
    rw [← hrr]
    have HRR := Lib.hid hrr
    have HMM := Lib.hid (show M = 2 ^ l.length - 1 by omega)
    clear hN1 hN2 hn hnew hN hM hrr
    go_enter Try.func54, Try.ntmps54
    go_wp2_with (first | ((with_reducible refine gate_dst (N := 1) rfl ?_); refine box_event ?hg (N := 1) ?hd (cs := #[.int .i64 a, .slice A0 l.length c0]) (t := 26) ?hr ?_; (case hd => rfl); (case hg => rfl); (case hr => first | (go_simp; done) | (go_simp; rfl)); intro gb hg w1 hbox hb; have n0_ := Aside0.mk (below_step HB.out hb); clear HB; have HB := n0_; clear n0_; have BKL := Aside0.mk hbox; clear hbox hb hg; have hcz0 : w1.cell? ⟨gb, 0, none⟩ = some (.int .i64 a) := (blk_cell BKL.out 0).trans rfl; have hcz1 : w1.cell? ⟨gb, 1, none⟩ = some (.slice A0 l.length c0) := (blk_cell BKL.out 1).trans rfl) | ((with_reducible refine (spec_gaTaking.calls k a A0 c0 l true _ (Kd.C_below HR.out HB.out) HC.out HT.out).mono ?_); rintro e w2 ⟨rfl, hb⟩; have n0_ := Aside0.mk (below_step HB.out hb); have n1_ := Aside0.mk (blk_below BKL.out hb); clear HB BKL hb; have HB := n0_; have BKL := n1_; clear n0_ n1_; have hcy0 : w2.cell? ⟨gb, 0, none⟩ = some (.int .i64 a) := (blk_cell BKL.out 0).trans rfl; have hcy1 : w2.cell? ⟨gb, 1, none⟩ = some (.slice A0 l.length c0) := (blk_cell BKL.out 1).trans rfl) | ((with_reducible refine (gaNew_calls k a A0 c0 l hs ls _ (Kd.C_below HR.out HB.out) HC.out HNEW.out).mono ?_); rw [← HNN.out]; rintro e w3 ⟨g, gh, gl, rfl, hga, hb⟩; have HG := Aside0.mk hga; have n0_ := Aside0.mk (below_step HB.out hb); have n1_ := Aside0.mk (blk_below BKL.out hb); clear HB BKL hga hb hcz0 hcz1 hcy0 hcy1; have HB := n0_; have BKL := n1_; clear n0_ n1_; have hcx1 : w3.cell? ⟨gb, 1, none⟩ = some (.slice A0 l.length c0) := (blk_cell BKL.out 1).trans rfl; have hcg3 : w3.cell? ⟨g, 3, none⟩ = some (.slice (some ⟨gl, 0, none⟩) N N) := (blk_cell HG.out.1 3).trans rfl; have hcg2 : w3.cell? ⟨g, 2, none⟩ = some (.slice (some ⟨gh, 0, none⟩) N N) := (blk_cell HG.out.1 2).trans rfl))
    clear hcx1 hcg3 hcg2 BKL
    go_loopg [5, 16] l.length (fun gg v5 v16 wr => ∃ (d i : Nat) (acc : List Int), d ≤ gg ∧ i + d = l.length ∧ v16 = .int .i64 (i : Int) ∧ Aside0 (acc ++ ggGo hs ls M d i = rr) ∧ Aside0 (acc.length ≤ i) ∧ Aside0 (GaB A0 c0 a l g gh gl N hs ls wr) ∧ Aside0 (Kd.R (Kd.int .i64) 3 wr w.heap.size (fun k_ => k_ ≠ g ∧ k_ ≠ gh ∧ k_ ≠ gl) v5 acc) ∧ Aside0 (Below w.heap.size w wr))
    case atStart => exact ⟨l.length, 0, [], Nat.le_refl _, Nat.zero_add _, rfl, ⟨HRR.out.symm⟩, ⟨Nat.le_refl _⟩, HG, ⟨Kd.R_nil _ _ _ _ _⟩, HB⟩
    case round =>
      clear HG HB
      obtain ⟨d, i, acc, hgg, hid, rfl, HAC, HAL, HG, HRO, HB⟩ := hrel
      have hac := HAC.out
      cases d with
      | zero =>
        have d1 : decide (i < l.length) = false := decide_eq_false (by omega)
        rw [ggGo, List.append_nil] at hac
        have HAA := Aside0.mk hac
        clear hgg hid hac HAC
        go_wp2
        go_ret2
        exact ⟨_, rfl, by rw [← HAA.out]; exact Kd.R_mono HRO.out (fun _ _ => trivial), HB.out⟩
      | succ d =>
        have d1 : decide (i < l.length) = true := decide_eq_true (by omega)
        have hil : i < l.length := by omega
        rw [ggGo] at hac
        have HI12 := Lib.hid (show i < 12 by have := HN12.out; omega)
        have HGG := Lib.hid hgg
        have HID := Lib.hid hid
        have HWJ := Lib.hid (show wrap64 ((i : Int) + 1) = ((i + 1 : Nat) : Int) by have := HI12.out; clear e1; unfold wrap64; omega)
        have hbz2 : ¬ M / 2 ^ i % 2 = 0 := by rw [HMM.out]; exact full_bit _ _ hil
        have ec := clrI_eq M i (Nat.lt_of_lt_of_le HMN.out HN2.out) HI12.out hbz2
        rw [← show min i 64 = i from Nat.min_eq_left (by have := HI12.out; clear ec e1; omega)] at ec
        rw [show M - 2 ^ min i 64 = M - 2 ^ i by rw [Nat.min_eq_left (by have := HI12.out; clear ec e1; omega)]] at ec
        obtain ⟨t, ht⟩ : ∃ t, t = M - 2 ^ i := ⟨_, rfl⟩
        rw [← ht] at ec hac
        have htN : t < N := by rw [ht]; exact Nat.lt_of_le_of_lt (Nat.sub_le _ _) HMN.out
        have HTN := Lib.hid htN
        have p2 : 0 ≤ ((t : Nat) : Int) := by clear ec e1; omega
        have q2 : ((t : Nat) : Int) < (N : Int) := by clear ec e1; omega
        replace p2 := eq_true p2
        replace q2 := eq_true q2
        obtain ⟨hv, hhv⟩ : ∃ hv, hv = hs.getD t false := ⟨_, rfl⟩
        obtain ⟨lv, hlv⟩ : ∃ lv, lv = ls.getD t 0 := ⟨_, rfl⟩
        rw [← hhv, ← hlv] at hac
        have HHV := Lib.hid hhv
        have HLV := Lib.hid hlv
        clear hgg hid hil hbz2 htN ht hhv hlv HAC
        go_wp2
        have HG2 := Aside0.mk HG.out.drew
        have HB2 := Aside0.mk (below_drew1 HB.out)
        have HRO2 := Aside0.mk (Kd.R_drew HRO.out)
        clear HG HB HRO
        refine start_ (n := 10) (S := fun w' => w'.cell? ⟨g, 3, none⟩ = some (.slice (some ⟨gl, 0, none⟩) N N)) (ds := []) #[false, false, false, false, false, false, false, false, false, false] (by kernel_rfl) rfl rfl ((blk_cell HG2.out.1 3).trans rfl) (fun hHeld => ?_)
        generalize wr.drew = w5 at HG2 HB2 HRO2 hHeld ⊢
        refine pure_ (i := 0) (N := some 19) (v := ?_) (a' := ?_) #[true, false, false, false, false, false, false, false, false, false] rfl rfl (by kernel_rfl) (fun _ _ _ h => h) (Or.inl ⟨by rfl, ?_⟩) ?_ ?_
        rotate_left
        · intro w'
          go_simp
          with_reducible rfl
        rotate_left
        · simp only [Act.put, List.setIfInBounds_toArray, List.set_cons_zero, List.set_cons_succ, i64_w, i32_w]
          rfl
        refine pure_ (i := 1) (N := some 20) (v := ?_) (a' := ?_) #[true, true, false, false, false, false, false, false, false, false] rfl rfl (by kernel_rfl) (fun _ _ _ h => h) (Or.inl ⟨by rfl, ?_⟩) ?_ ?_
        rotate_left
        · intro w'
          go_simp
          with_reducible rfl
        rotate_left
        · simp only [Act.put, List.setIfInBounds_toArray, List.set_cons_zero, List.set_cons_succ, i64_w, i32_w]
          rfl
        refine pure_ (i := 2) (N := some 21) (v := ?_) (a' := ?_) #[true, true, true, false, false, false, false, false, false, false] rfl rfl (by kernel_rfl) (fun _ _ _ h => h) (Or.inl ⟨by rfl, ?_⟩) ?_ ?_
        rotate_left
        · intro w'
          go_simp
          with_reducible rfl
        rotate_left
        · simp only [Act.put, List.setIfInBounds_toArray, List.set_cons_zero, List.set_cons_succ, i64_w, i32_w]
          rfl
        refine take_ (i := 3) (N := some 22) (v := ?_) (a' := ?_) #[true, true, true, true, false, false, false, false, false, false] rfl rfl (by kernel_rfl) (fun _ _ _ h => h) (Or.inl ⟨by rfl, ?_⟩) hHeld ?_ ?_
        rotate_left
        · rintro w' s0
          go_simp
          with_reducible rfl
        rotate_left
        · simp only [Act.put, List.setIfInBounds_toArray, List.set_cons_zero, List.set_cons_succ, i64_w, i32_w]
          rfl
        refine pure_ (i := 4) (N := some 23) (v := ?_) (a' := ?_) #[true, true, true, true, true, false, false, false, false, false] rfl rfl (by kernel_rfl) (fun _ _ _ h => h) (Or.inl ⟨by rfl, ?_⟩) ?_ ?_
        rotate_left
        · intro w'
          go_simp
          with_reducible rfl
        rotate_left
        · simp only [Act.put, List.setIfInBounds_toArray, List.set_cons_zero, List.set_cons_succ, i64_w, i32_w]
          rfl
        refine pure_ (i := 5) (N := some 24) (v := ?_) (a' := ?_) #[true, true, true, true, true, true, false, false, false, false] rfl rfl (by kernel_rfl) (fun _ _ _ h => h) (Or.inl ⟨by rfl, ?_⟩) ?_ ?_
        rotate_left
        · intro w'
          go_simp
          with_reducible rfl
        rotate_left
        · simp only [Act.put, List.setIfInBounds_toArray, List.set_cons_zero, List.set_cons_succ, i64_w, i32_w]
          rfl
        refine pure_ (i := 6) (N := some 25) (v := ?_) (a' := ?_) #[true, true, true, true, true, true, true, false, false, false] rfl rfl (by kernel_rfl) (fun _ _ _ h => h) (Or.inl ⟨by rfl, ?_⟩) ?_ ?_
        rotate_left
        · intro w'
          go_simp
          with_reducible rfl
        rotate_left
        · simp only [Act.put, List.setIfInBounds_toArray, List.set_cons_zero, List.set_cons_succ, i64_w, i32_w]
          rfl
        refine pure_ (i := 7) (N := some 26) (v := ?_) (a' := ?_) #[true, true, true, true, true, true, true, true, false, false] rfl rfl (by kernel_rfl) (fun _ _ _ h => h) (Or.inl ⟨by rfl, ?_⟩) ?_ ?_
        rotate_left
        · intro w'
          go_simp
          with_reducible rfl
        rotate_left
        · simp only [Act.put, List.setIfInBounds_toArray, List.set_cons_zero, List.set_cons_succ, i64_w, i32_w]
          rfl
        refine pure_ (i := 8) (N := some 27) (v := ?_) (a' := ?_) #[true, true, true, true, true, true, true, true, true, false] rfl rfl (by kernel_rfl) (fun _ _ _ h => h) (Or.inl ⟨by rfl, ?_⟩) ?_ ?_
        rotate_left
        · intro w'
          go_simp
          with_reducible rfl
        rotate_left
        · simp only [Act.put, List.setIfInBounds_toArray, List.set_cons_zero, List.set_cons_succ, i64_w, i32_w]
          rfl
        refine pure_ (i := 9) (N := some 7) (v := ?_) (a' := ?_) #[true, true, true, true, true, true, true, true, true, true] rfl rfl (by kernel_rfl) (fun _ _ _ h => h) (Or.inl ⟨by rfl, ?_⟩) ?_ ?_
        rotate_left
        · intro w'
          go_simp
          with_reducible rfl
        rotate_left
        · simp only [Act.put, List.setIfInBounds_toArray, List.set_cons_zero, List.set_cons_succ, i64_w, i32_w]
          rfl
        refine done_ (by kernel_rfl) ?_
        clear hHeld
        have HG := HG2
        have HB := HB2
        have HRO := HRO2
        clear HG2 HB2 HRO2
        have hcg3 : w5.cell? ⟨g, 3, none⟩ = some (.slice (some ⟨gl, 0, none⟩) N N) := (blk_cell HG.out.1 3).trans rfl
        have hcg2 : w5.cell? ⟨g, 2, none⟩ = some (.slice (some ⟨gh, 0, none⟩) N N) := (blk_cell HG.out.1 2).trans rfl
        have hch := HG.out.atH t HTN.out
        have hcl := HG.out.atL t HTN.out
        rw [← HHV.out] at hch
        rw [← HLV.out] at hcl
        cases hv0 : hv with
        | true =>
          subst hv0
          rw [if_pos (Or.inl rfl)] at hac
          have HAC := Aside0.mk (show (acc ++ [(i : Int)]) ++ ggGo hs ls M d (i + 1) = rr by rw [← hac, List.append_assoc]; rfl)
          clear hac
          go_wp2_with (first | ((with_reducible refine gate_builtin (b := .append) (xs := #[.tmp 45, .tmp 47]) rfl ?_); at_builtin; refine Kd.R_append (Kd.int .i64) (w0 := w) w.heap.size rfl (.tmp 45) (.tmp 47) 24 3 (.int .i64 0) 8 rfl Try.underlying24 info3 rfl (by decide) (by omega) u5 acc (i : Int) [.int .i64 (i : Int)] (fun k_ => k_ ≠ g ∧ k_ ≠ gh ∧ k_ ≠ gl) (fun _ => False) rfl rfl ?aP (fun _ hk => hk.elim) ?aF ?aO ?aB ?aS ?aL ?_; (case aP => exact rfl); (case aB => exact HB.out); (case aF => exact (fun k_ hk => ⟨Nat.ne_of_gt (Nat.lt_of_lt_of_le (blk_lt HG.out.1) hk), Nat.ne_of_gt (Nat.lt_of_lt_of_le (blk_lt HG.out.2.1) hk), Nat.ne_of_gt (Nat.lt_of_lt_of_le (blk_lt HG.out.2.2.1) hk)⟩)); (case aO => exact HRO.out); (case aS => exact HB.out.size); (case aL => exact (by have := HN12.out; have := HAL.out; have := HI12.out; omega)); intro v2 w2 ho hb hg hat; have n0_ := Aside0.mk (HG.out.grown hg (fun k_ e_ => HRO.out.1 k_ e_)); have n1_ := Aside0.mk ho; have n2_ := Aside0.mk hb; clear HG HRO HB ho hb hg hat; have HG := n0_; have HRO := n1_; have HB := n2_; clear n0_ n1_ n2_))
          go_roundg d
          case measure => have := HGG.out; omega
          case rel => exact ⟨d, i + 1, acc ++ [(i : Int)], Nat.le_refl _, by have := HID.out; omega, by rw [← HWJ.out], HAC, ⟨by rw [List.length_append]; have := HAL.out; simp; omega⟩, HG, HRO, HB⟩
        | false =>
          subst hv0
          by_cases hneg : lv < 0
          · have u1 : decide (lv < 0) = true := decide_eq_true hneg
            rw [if_pos (Or.inr hneg)] at hac
            have HAC := Aside0.mk (show (acc ++ [(i : Int)]) ++ ggGo hs ls M d (i + 1) = rr by rw [← hac, List.append_assoc]; rfl)
            clear hac hneg
            go_wp2_with (first | ((with_reducible refine gate_builtin (b := .append) (xs := #[.tmp 45, .tmp 47]) rfl ?_); at_builtin; refine Kd.R_append (Kd.int .i64) (w0 := w) w.heap.size rfl (.tmp 45) (.tmp 47) 24 3 (.int .i64 0) 8 rfl Try.underlying24 info3 rfl (by decide) (by omega) u5 acc (i : Int) [.int .i64 (i : Int)] (fun k_ => k_ ≠ g ∧ k_ ≠ gh ∧ k_ ≠ gl) (fun _ => False) rfl rfl ?aP (fun _ hk => hk.elim) ?aF ?aO ?aB ?aS ?aL ?_; (case aP => exact rfl); (case aB => exact HB.out); (case aF => exact (fun k_ hk => ⟨Nat.ne_of_gt (Nat.lt_of_lt_of_le (blk_lt HG.out.1) hk), Nat.ne_of_gt (Nat.lt_of_lt_of_le (blk_lt HG.out.2.1) hk), Nat.ne_of_gt (Nat.lt_of_lt_of_le (blk_lt HG.out.2.2.1) hk)⟩)); (case aO => exact HRO.out); (case aS => exact HB.out.size); (case aL => exact (by have := HN12.out; have := HAL.out; have := HI12.out; omega)); intro v2 w2 ho hb hg hat; have n0_ := Aside0.mk (HG.out.grown hg (fun k_ e_ => HRO.out.1 k_ e_)); have n1_ := Aside0.mk ho; have n2_ := Aside0.mk hb; clear HG HRO HB ho hb hg hat; have HG := n0_; have HRO := n1_; have HB := n2_; clear n0_ n1_ n2_))
            go_roundg d
            case measure => have := HGG.out; omega
            case rel => exact ⟨d, i + 1, acc ++ [(i : Int)], Nat.le_refl _, by have := HID.out; omega, by rw [← HWJ.out], HAC, ⟨by rw [List.length_append]; have := HAL.out; simp; omega⟩, HG, HRO, HB⟩
          · have u1 : decide (lv < 0) = false := decide_eq_false hneg
            rw [if_neg (fun h => h.elim (fun h => by cases h) hneg)] at hac
            have HAC := Aside0.mk hac
            clear hac hneg
            go_wp2
            go_roundg d
            case measure => have := HGG.out; omega
            case rel => exact ⟨d, i + 1, acc, Nat.le_refl _, by have := HID.out; omega, by rw [← HWJ.out], HAC, ⟨by have := HAL.out; omega⟩, HG, HRO, HB⟩


/-! ### impl_TakeLength: function 55 -/
def impl_TakeLength.f (k : Nat) (a0 : Int) (l0 : List Int) : Option (Int × Bool) := (impl_isTaking.f k a0 l0).bind fun t => if t = true then (if l0.length ≤ 12 then (bestF k a0 l0 (2 ^ l0.length - 1)).bind fun o => some (o.2.2, true) else none) else some (0, false)
theorem impl_TakeLength.mono : ∀ a0 a1 k, LeO (impl_TakeLength.f k a0 a1) (impl_TakeLength.f (k + 1) a0 a1) := by
  intro a0 a1 k
  unfold impl_TakeLength.f
  exact LeO.bind (impl_isTaking.mono _ _ _) fun _ => LeO.ite (LeO.ite (LeO.bind (bestF_mono k _ _ _) fun _ => LeO.refl _) (LeO.refl _)) (LeO.refl _)
set_option maxHeartbeats 4000000 in
set_option maxRecDepth 100000 in
theorem impl_TakeLength.calls (k : Nat) (a0_0 : Int) (A0_1 : Option Addr) (c0_1 : Nat) (l0_1 : List Int) (r1 : Int) (r2 : Bool) (w : World) (hr0_1 : Kd.C (Kd.int .i64) w A0_1 l0_1.length l0_1) (hc0_1 : l0_1.length ≤ c0_1) (h : impl_TakeLength.f k a0_0 l0_1 = some (r1, r2)) :
    Calls Try.prog 55 #[.agg #[.int .i64 a0_0, .slice A0_1 l0_1.length c0_1]] w fun e w' => e = .returned (.tuple #[.int .i64 r1, .bool r2]) ∧ Below w.heap.size w w' := by
  have hu28 := Try.underlying26
  have hu60 := Try.underlying95
  have hfl : ∀ (W : World) (x : Bool) (y z : Int), (Instr.field 95 (.agg #[.bool x, .int .i64 y, .int .i64 z]) 2).run Try.prog W = .ok (.int .i64 z) W := fun _ _ _ _ => by kernel_rfl
  have HR := Aside0.mk hr0_1
  have HC := Aside0.mk hc0_1
  have HB := Aside0.mk (Below.refl w.heap.size w)
  replace h := Option.bind_eq_some_iff.mp h
  obtain ⟨t, ht, h⟩ := h
  have HT := Aside0.mk ht
  clear hr0_1 hc0_1 ht
  cases t with
  | false =>
    rw [if_neg (by simp)] at h
    simp only [Option.some.injEq, Prod.mk.injEq] at h
    obtain ⟨rfl, rfl⟩ := h
    go_enter Try.func55, Try.ntmps55
    go_wp2_with (first | ((with_reducible refine gate_dst (N := 1) rfl ?_); refine box_event ?hg (N := 1) ?hd (cs := #[.int .i64 a0_0, .slice A0_1 l0_1.length c0_1]) (t := 26) ?hr ?_; (case hd => rfl); (case hg => rfl); (case hr => first | (go_simp; done) | (go_simp; rfl)); intro gl hg w1 hbox hb; have n0_ := Aside0.mk (below_step HB.out hb); clear HB; have HB := n0_; clear n0_; have BKL := Aside0.mk hbox; clear hbox hb hg; have hcz0 : w1.cell? ⟨gl, 0, none⟩ = some (.int .i64 a0_0) := (blk_cell BKL.out 0).trans rfl; have hcz1 : w1.cell? ⟨gl, 1, none⟩ = some (.slice A0_1 l0_1.length c0_1) := (blk_cell BKL.out 1).trans rfl; have hfz0 := blk_frozen BKL.out 0; have hfz1 := blk_frozen BKL.out 1) | ((with_reducible refine gate_callee (f := 112) rfl ?_); refine goesL_ (some 8) rfl rfl Try.func112 (by kernel_rfl) rfl #[.agg #[.int .i64 a0_0, .slice A0_1 l0_1.length c0_1]] rfl (by (try simp only [List.map_toArray, List.map_cons, List.map_nil]); first | done | rfl) ?_; (with_reducible refine (gameOf_calls k a0_0 A0_1 c0_1 l0_1 _ _ (Kd.C_below HR.out HB.out) HC.out HT.out).mono ?_); rintro e w2 ⟨g, bm, rfl, hgm, hmp, hne, hgw, hmw, hb⟩; refine ⟨_, rfl, ?_⟩; have HG := Aside0.mk hgm; have HMP := Aside0.mk hmp; have HNE := Aside0.mk hne; have HGW := Aside0.mk hgw; have HMW := Aside0.mk hmw; have n0_ := Aside0.mk (below_step HB.out hb); clear HB; have HB := n0_; clear n0_ hgm hmp hne hgw hmw hb BKL))

    go_ret2
    exact ⟨rfl, HB.out⟩
  | true =>
    rw [if_pos rfl] at h
    by_cases hn : l0_1.length ≤ 12
    case neg => rw [if_neg hn] at h; cases h
    rw [if_pos hn] at h
    replace h := Option.bind_eq_some_iff.mp h
    obtain ⟨⟨x1, y1, z1⟩, hm, h⟩ := h
    simp only [Option.some.injEq, Prod.mk.injEq] at h
    obtain ⟨rfl, rfl⟩ := h
    have HN := Lib.hid hn
    have HM := Aside0.mk hm
    have HS4 := Lib.hid (show 2 ^ l0_1.length - 1 < 4096 by have h1 := Nat.pow_le_pow_right (n := 2) (by decide) hn; omega)
    clear hn hm
    go_enter Try.func55, Try.ntmps55
    go_wp2_with (first | ((with_reducible refine gate_dst (N := 1) rfl ?_); refine box_event ?hg (N := 1) ?hd (cs := #[.int .i64 a0_0, .slice A0_1 l0_1.length c0_1]) (t := 26) ?hr ?_; (case hd => rfl); (case hg => rfl); (case hr => first | (go_simp; done) | (go_simp; rfl)); intro gl hg w1 hbox hb; have n0_ := Aside0.mk (below_step HB.out hb); clear HB; have HB := n0_; clear n0_; have BKL := Aside0.mk hbox; clear hbox hb hg; have hcz0 : w1.cell? ⟨gl, 0, none⟩ = some (.int .i64 a0_0) := (blk_cell BKL.out 0).trans rfl; have hcz1 : w1.cell? ⟨gl, 1, none⟩ = some (.slice A0_1 l0_1.length c0_1) := (blk_cell BKL.out 1).trans rfl; have hfz0 := blk_frozen BKL.out 0; have hfz1 := blk_frozen BKL.out 1) | ((with_reducible refine gate_callee (f := 112) rfl ?_); refine goesL_ (some 8) rfl rfl Try.func112 (by kernel_rfl) rfl #[.agg #[.int .i64 a0_0, .slice A0_1 l0_1.length c0_1]] rfl (by (try simp only [List.map_toArray, List.map_cons, List.map_nil]); first | done | rfl) ?_; (with_reducible refine (gameOf_calls k a0_0 A0_1 c0_1 l0_1 _ _ (Kd.C_below HR.out HB.out) HC.out HT.out).mono ?_); rintro e w2 ⟨g, bm, rfl, hgm, hmp, hne, hgw, hmw, hb⟩; refine ⟨_, rfl, ?_⟩; have HG := Aside0.mk hgm; have HMP := Aside0.mk hmp; have HNE := Aside0.mk hne; have HSU := Aside0.mk (show Setup w A0_1 c0_1 a0_0 l0_1 g bm from ⟨HR.out, HC.out, HN.out, Nat.le_trans HB.out.size hgw, Nat.le_trans HB.out.size hmw, hne⟩); have n0_ := Aside0.mk (below_step HB.out hb); clear HB; have HB := n0_; clear n0_ hgm hmp hne hgw hmw hb BKL) | ((with_reducible refine (full_calls a0_0 A0_1 c0_1 l0_1 (by have := HN.out; omega) g bm _ HG.out).mono ?_); rintro e w3 ⟨rfl, ⟨q', rfl⟩⟩; have GM := Aside0.mk (show Gm w A0_1 c0_1 a0_0 l0_1 g bm _ from ⟨blk_drewN HG.out q', ⟨_, World.ownsMap.kept (row := none) HMP.out (grown_of_below (pw_below_drewN (Below.refl _ _) q') none) (by simp), KnownD.nil _ _⟩, pw_below_drewN HB.out q'⟩)) | ((with_reducible refine ((best_at HSU.out k).calls _ HS4.out x1 y1 z1 HM.out GM.out).mono ?_); rintro e w4 ⟨rfl, hgm, hgr⟩; have GM2 := Aside0.mk hgm; clear hgm hgr GM))

    go_ret2
    exact ⟨rfl, GM2.out.2.2⟩


/-! ### spec_l1Abs: function 120 -/
def spec_l1Abs.f (a0 : Int) : Option (Int) := (spec_l1Most.f a0 (wrap64 (-a0))).bind fun t1217 => (some t1217)
set_option maxHeartbeats 8000000 in
set_option maxRecDepth 100000 in
theorem spec_l1Abs.calls (a0 : Int) (r : Int) (w : World) (h : spec_l1Abs.f a0 = some r) :
 Calls Try.prog 120 #[.int .i64 a0] w fun e w' => e = .returned (.int .i64 r) ∧ Drawn0 w w' := by
 have H : ((spec_l1Most.f a0 (wrap64 (-a0))).bind fun t1217 => (some t1217)) = some r := h
 clear h
 replace H := Option.bind_eq_some_iff.mp H
 obtain ⟨t1217, A20, H⟩ := H
 (try dsimp only at H)
 have A2 := Aside0.mk A20
 clear A20
 obtain rfl := Option.some.inj H
 go_enter Try.func120, Try.ntmps120
 go_wp2_with (first | ((with_reducible refine gate_callee (f := 124) rfl ?_); refine gl_ (some 6) rfl rfl Try.func124 (by kernel_rfl) rfl #[.int .i64 a0, .int .i64 (wrap64 (-a0))] rfl ?_; (with_reducible refine (spec_l1Most.calls a0 (wrap64 (-a0)) t1217 _ A2.out).mono ?_); rintro e w' ⟨rfl, ⟨nd, rfl⟩⟩; refine ⟨_, rfl, ?_⟩))
 go_ret
 exact ⟨by first | rfl | (simp; done) | (simp [*]; done), by repeat (first | exact Drawn0.refl _ | apply Drawn0.step)⟩

/-! ### spec_TakeLength: function 56 -/
def spec_TakeLength.f (k : Nat) (a : Int) (l : List Int) : Option (Int × Bool) := (spec_gaTaking.f k a l).bind fun t => if t = true then (gaNewF k a l).bind fun p => (spec_l1Abs.f (p.2.getD (2 ^ l.length - 1) 0)).bind fun x => some (x, true) else some (0, false)
theorem spec_TakeLength.mono : ∀ a0 a1 k, LeO (spec_TakeLength.f k a0 a1) (spec_TakeLength.f (k + 1) a0 a1) := by
  intro a0 a1 k
  unfold spec_TakeLength.f
  exact LeO.bind (spec_gaTaking.mono _ _ _) fun _ => LeO.ite (LeO.bind (gaNewF_mono k _ _) fun _ => LeO.refl _) (LeO.refl _)
set_option maxHeartbeats 4000000 in
set_option maxRecDepth 100000 in
theorem spec_TakeLength.calls (k : Nat) (a : Int) (A0 : Option Addr) (c0 : Nat) (l : List Int) (r1 : Int) (r2 : Bool) (w : World) (hr : Kd.C (Kd.int .i64) w A0 l.length l) (hc : l.length ≤ c0) (h : spec_TakeLength.f k a l = some (r1, r2)) :
    Calls Try.prog 56 #[.agg #[.int .i64 a, .slice A0 l.length c0]] w fun e w' => e = .returned (.tuple #[.int .i64 r1, .bool r2]) ∧ Below w.heap.size w w' := by
  have hu28 := Try.underlying26
  have hu58 := Try.underlying100
  have HR := Aside0.mk hr
  have HC := Aside0.mk hc
  have HB := Aside0.mk (Below.refl w.heap.size w)
  replace h := Option.bind_eq_some_iff.mp h
  obtain ⟨t, ht, h⟩ := h
  have HT := Aside0.mk ht
  clear hr hc ht
  cases t with
  | false =>
    rw [if_neg (by simp)] at h
    simp only [Option.some.injEq, Prod.mk.injEq] at h
    obtain ⟨rfl, rfl⟩ := h
    go_enter Try.func56, Try.ntmps56
    go_wp2_with (first | ((with_reducible refine gate_dst (N := 1) rfl ?_); refine box_event ?hg (N := 1) ?hd (cs := #[.int .i64 a, .slice A0 l.length c0]) (t := 26) ?hr ?_; (case hd => rfl); (case hg => rfl); (case hr => first | (go_simp; done) | (go_simp; rfl)); intro gb hg w1 hbox hb; have n0_ := Aside0.mk (below_step HB.out hb); clear HB; have HB := n0_; clear n0_; have BKL := Aside0.mk hbox; clear hbox hb hg; have hcz0 : w1.cell? ⟨gb, 0, none⟩ = some (.int .i64 a) := (blk_cell BKL.out 0).trans rfl; have hcz1 : w1.cell? ⟨gb, 1, none⟩ = some (.slice A0 l.length c0) := (blk_cell BKL.out 1).trans rfl) | ((with_reducible refine (spec_gaTaking.calls k a A0 c0 l false _ (Kd.C_below HR.out HB.out) HC.out HT.out).mono ?_); rintro e w2 ⟨rfl, hb⟩; have n0_ := Aside0.mk (below_step HB.out hb); have n1_ := Aside0.mk (blk_below BKL.out hb); clear HB BKL hb; have HB := n0_; have BKL := n1_; clear n0_ n1_; have hcy0 : w2.cell? ⟨gb, 0, none⟩ = some (.int .i64 a) := (blk_cell BKL.out 0).trans rfl; have hcy1 : w2.cell? ⟨gb, 1, none⟩ = some (.slice A0 l.length c0) := (blk_cell BKL.out 1).trans rfl))
    go_ret2
    exact ⟨rfl, HB.out⟩
  | true =>
    rw [if_pos rfl] at h
    replace h := Option.bind_eq_some_iff.mp h
    obtain ⟨⟨hs, ls⟩, hnew, h⟩ := h
    have hn : l.length ≤ 12 := by
      unfold gaNewF at hnew
      by_cases hn : l.length ≤ 12
      · exact hn
      · rw [if_neg hn] at hnew; cases hnew
    have hN1 : 1 ≤ 2 ^ l.length := Nat.one_le_two_pow
    have hN2 : 2 ^ l.length ≤ 4096 := by have h1 := Nat.pow_le_pow_right (n := 2) (by decide) hn; omega
    have HNEW := Aside0.mk hnew
    have HN12 := Lib.hid hn
    obtain ⟨N, hN⟩ : ∃ N, N = 2 ^ l.length := ⟨_, rfl⟩
    rw [← hN] at hN1 hN2
    have HN1 := Lib.hid hN1
    have HN2 := Lib.hid hN2
    have HNN := Lib.hid hN
    obtain ⟨M, hM⟩ : ∃ M, M = N - 1 := ⟨_, rfl⟩
    have e1 : wrap64 ((N : Int) - 1) = (M : Int) := by unfold wrap64; omega
    have q1 : (M : Int) < (N : Int) := by omega
    have p1 : 0 ≤ (M : Int) := by omega
    have HMN := Lib.hid (show M < N by omega)
    replace p1 := eq_true p1
    replace q1 := eq_true q1
    rw [← hN, ← hM] at h
    replace h := Option.bind_eq_some_iff.mp h
    obtain ⟨x, hx, h⟩ := h
    simp only [Option.some.injEq, Prod.mk.injEq] at h
    obtain ⟨rfl, rfl⟩ := h
    obtain ⟨lv, hlv⟩ : ∃ lv, lv = ls.getD M 0 := ⟨_, rfl⟩
    rw [← hlv] at hx
    have HX := Aside0.mk hx
    have HLV := Lib.hid hlv
    clear hN1 hN2 hn hnew hN hM hlv hx
    go_enter Try.func56, Try.ntmps56
    go_wp2_with (first | ((with_reducible refine gate_dst (N := 1) rfl ?_); refine box_event ?hg (N := 1) ?hd (cs := #[.int .i64 a, .slice A0 l.length c0]) (t := 26) ?hr ?_; (case hd => rfl); (case hg => rfl); (case hr => first | (go_simp; done) | (go_simp; rfl)); intro gb hg w1 hbox hb; have n0_ := Aside0.mk (below_step HB.out hb); clear HB; have HB := n0_; clear n0_; have BKL := Aside0.mk hbox; clear hbox hb hg; have hcz0 : w1.cell? ⟨gb, 0, none⟩ = some (.int .i64 a) := (blk_cell BKL.out 0).trans rfl; have hcz1 : w1.cell? ⟨gb, 1, none⟩ = some (.slice A0 l.length c0) := (blk_cell BKL.out 1).trans rfl) | ((with_reducible refine (spec_gaTaking.calls k a A0 c0 l true _ (Kd.C_below HR.out HB.out) HC.out HT.out).mono ?_); rintro e w2 ⟨rfl, hb⟩; have n0_ := Aside0.mk (below_step HB.out hb); have n1_ := Aside0.mk (blk_below BKL.out hb); clear HB BKL hb; have HB := n0_; have BKL := n1_; clear n0_ n1_; have hcy0 : w2.cell? ⟨gb, 0, none⟩ = some (.int .i64 a) := (blk_cell BKL.out 0).trans rfl; have hcy1 : w2.cell? ⟨gb, 1, none⟩ = some (.slice A0 l.length c0) := (blk_cell BKL.out 1).trans rfl) | ((with_reducible refine (gaNew_calls k a A0 c0 l hs ls _ (Kd.C_below HR.out HB.out) HC.out HNEW.out).mono ?_); rw [← HNN.out]; rintro e w3 ⟨g, gh, gl, rfl, hga, hb⟩; have HG := Aside0.mk hga; have n0_ := Aside0.mk (below_step HB.out hb); have n1_ := Aside0.mk (blk_below BKL.out hb); clear HB BKL hga hb hcz0 hcz1 hcy0 hcy1; have HB := n0_; have BKL := n1_; clear n0_ n1_; have hcx1 : w3.cell? ⟨gb, 1, none⟩ = some (.slice A0 l.length c0) := (blk_cell BKL.out 1).trans rfl; have hcg3 : w3.cell? ⟨g, 3, none⟩ = some (.slice (some ⟨gl, 0, none⟩) N N) := (blk_cell HG.out.1 3).trans rfl; have hcg2 : w3.cell? ⟨g, 2, none⟩ = some (.slice (some ⟨gh, 0, none⟩) N N) := (blk_cell HG.out.1 2).trans rfl))
    have HB2 := Aside0.mk (below_drew1 HB.out)
    have HG2 := Aside0.mk HG.out.drew
    clear HB HG BKL hcx1 hcg3 hcg2
    have hat := HG2.out.atL M HMN.out
    rw [← HLV.out] at hat
    have HAT := Aside0.mk hat
    clear hat
    refine start_ (n := 15) (S := fun w' => w'.cell? ⟨g, 3, none⟩ = some (.slice (some ⟨gl, 0, none⟩) N N) ∧ w'.cell? ⟨gl, M, none⟩ = some (.int .i64 lv)) (ds := []) #[false, false, false, false, false, false, false, false, false, false, false, false, false, false, false] (by kernel_rfl) rfl rfl ⟨(blk_cell HG2.out.1 3).trans rfl, HAT.out⟩ (fun hHeld => ?_)
    refine pure_ (i := 0) (N := some 10) (v := ?_) (a' := ?_) #[true, false, false, false, false, false, false, false, false, false, false, false, false, false, false] rfl rfl (by kernel_rfl) (fun _ _ _ h => h) (Or.inl ⟨by rfl, ?_⟩) ?_ ?_
    rotate_left
    · intro w'
      go_simp
      with_reducible rfl
    rotate_left
    · simp only [Act.put, List.setIfInBounds_toArray, List.set_cons_zero, List.set_cons_succ, i64_w, i32_w]
      rfl
    refine pure_ (i := 1) (N := some 11) (v := ?_) (a' := ?_) #[true, true, false, false, false, false, false, false, false, false, false, false, false, false, false] rfl rfl (by kernel_rfl) (fun _ _ _ h => h) (Or.inl ⟨by rfl, ?_⟩) ?_ ?_
    rotate_left
    · intro w'
      go_simp
      with_reducible rfl
    rotate_left
    · simp only [Act.put, List.setIfInBounds_toArray, List.set_cons_zero, List.set_cons_succ, i64_w, i32_w]
      rfl
    refine pure_ (i := 2) (N := some 12) (v := ?_) (a' := ?_) #[true, true, true, false, false, false, false, false, false, false, false, false, false, false, false] rfl rfl (by kernel_rfl) (fun _ _ _ h => h) (Or.inl ⟨by rfl, ?_⟩) ?_ ?_
    rotate_left
    · intro w'
      go_simp
      with_reducible rfl
    rotate_left
    · simp only [Act.put, List.setIfInBounds_toArray, List.set_cons_zero, List.set_cons_succ, i64_w, i32_w]
      rfl
    refine take_ (i := 3) (N := some 13) (v := ?_) (a' := ?_) #[true, true, true, true, false, false, false, false, false, false, false, false, false, false, false] rfl rfl (by kernel_rfl) (fun _ _ _ h => h) (Or.inl ⟨by rfl, ?_⟩) hHeld ?_ ?_
    rotate_left
    · rintro w' ⟨s0, s1⟩
      go_simp
      with_reducible rfl
    rotate_left
    · simp only [Act.put, List.setIfInBounds_toArray, List.set_cons_zero, List.set_cons_succ, i64_w, i32_w]
      rfl
    refine pure_ (i := 4) (N := some 14) (v := ?_) (a' := ?_) #[true, true, true, true, true, false, false, false, false, false, false, false, false, false, false] rfl rfl (by kernel_rfl) (fun _ _ _ h => h) (Or.inl ⟨by rfl, ?_⟩) ?_ ?_
    rotate_left
    · intro w'
      go_simp
      with_reducible rfl
    rotate_left
    · simp only [Act.put, List.setIfInBounds_toArray, List.set_cons_zero, List.set_cons_succ, i64_w, i32_w]
      rfl
    refine pure_ (i := 5) (N := some 15) (v := ?_) (a' := ?_) #[true, true, true, true, true, true, false, false, false, false, false, false, false, false, false] rfl rfl (by kernel_rfl) (fun _ _ _ h => h) (Or.inl ⟨by rfl, ?_⟩) ?_ ?_
    rotate_left
    · intro w'
      go_simp
      with_reducible rfl
    rotate_left
    · simp only [Act.put, List.setIfInBounds_toArray, List.set_cons_zero, List.set_cons_succ, i64_w, i32_w]
      rfl
    refine pure_ (i := 6) (N := some 16) (v := ?_) (a' := ?_) #[true, true, true, true, true, true, true, false, false, false, false, false, false, false, false] rfl rfl (by kernel_rfl) (fun _ _ _ h => h) (Or.inl ⟨by rfl, ?_⟩) ?_ ?_
    rotate_left
    · intro w'
      go_simp
      with_reducible rfl
    rotate_left
    · simp only [Act.put, List.setIfInBounds_toArray, List.set_cons_zero, List.set_cons_succ, i64_w, i32_w]
      rfl
    refine take_ (i := 7) (N := some 17) (v := ?_) (a' := ?_) #[true, true, true, true, true, true, true, true, false, false, false, false, false, false, false] rfl rfl (by kernel_rfl) (fun _ _ _ h => h) (Or.inl ⟨by rfl, ?_⟩) hHeld ?_ ?_
    rotate_left
    · rintro w' ⟨s0, s1⟩
      go_simp
      with_reducible rfl
    rotate_left
    · simp only [Act.put, List.setIfInBounds_toArray, List.set_cons_zero, List.set_cons_succ, i64_w, i32_w]
      rfl
    refine pure_ (i := 8) (N := some 18) (v := ?_) (a' := ?_) #[true, true, true, true, true, true, true, true, true, false, false, false, false, false, false] rfl rfl (by kernel_rfl) (fun _ _ _ h => h) (Or.inl ⟨by rfl, ?_⟩) ?_ ?_
    rotate_left
    · intro w'
      go_simp
      with_reducible rfl
    rotate_left
    · simp only [Act.put, List.setIfInBounds_toArray, List.set_cons_zero, List.set_cons_succ, i64_w, i32_w]
      rfl
    refine pure_ (i := 9) (N := some 19) (v := ?_) (a' := ?_) #[true, true, true, true, true, true, true, true, true, true, false, false, false, false, false] rfl rfl (by kernel_rfl) (fun _ _ _ h => h) (Or.inl ⟨by rfl, ?_⟩) ?_ ?_
    rotate_left
    · intro w'
      go_simp
      with_reducible rfl
    rotate_left
    · simp only [Act.put, List.setIfInBounds_toArray, List.set_cons_zero, List.set_cons_succ, i64_w, i32_w]
      rfl
    refine pure_ (i := 10) (N := some 20) (v := ?_) (a' := ?_) #[true, true, true, true, true, true, true, true, true, true, true, false, false, false, false] rfl rfl (by kernel_rfl) (fun _ _ _ h => h) (Or.inl ⟨by rfl, ?_⟩) ?_ ?_
    rotate_left
    · intro w'
      go_simp
      with_reducible rfl
    rotate_left
    · simp only [Act.put, List.setIfInBounds_toArray, List.set_cons_zero, List.set_cons_succ, i64_w, i32_w]
      rfl
    refine take_ (i := 11) (N := some 21) (v := ?_) (a' := ?_) #[true, true, true, true, true, true, true, true, true, true, true, true, false, false, false] rfl rfl (by kernel_rfl) (fun _ _ _ h => h) (Or.inl ⟨by rfl, ?_⟩) hHeld ?_ ?_
    rotate_left
    · rintro w' ⟨s0, s1⟩
      go_simp
      with_reducible rfl
    rotate_left
    · simp only [Act.put, List.setIfInBounds_toArray, List.set_cons_zero, List.set_cons_succ, i64_w, i32_w]
      rfl
    refine one_ (i := 12) (N := some 22) #[true, true, true, true, true, true, true, true, true, true, true, true, true, false, false] rfl rfl (by kernel_rfl) (by decide) (fun K hK => ?_)
    refine goes_ Try.func120 (by kernel_rfl) rfl #[.int .i64 lv] (by rfl) rfl rfl (by (try simp only [List.map_toArray, List.map_cons, List.map_nil]); first | done | rfl | (simp only [List.length_drop, List.length_take]; rfl)) ?_
    with_reducible refine (spec_l1Abs.calls lv x _ HX.out).mono ?_
    rintro e w4 ⟨rfl, ⟨q4, rfl⟩⟩
    refine ⟨_, rfl, ?_⟩
    refine hK.out _ _ ⟨(blk_cell (HG2.out.drewN q4).1 3).trans rfl, (HG2.out.drewN q4).atL M HMN.out |>.trans (by rw [← HLV.out])⟩ (fun hHeld => ?_)
    clear hK K
    refine norm_ (a' := ?_) ?_ ?_
    rotate_left
    · show Act.put _ (some 22) _ = _
      simp only [Act.put, List.setIfInBounds_toArray, List.set_cons_zero, List.set_cons_succ, i64_w, i32_w]
      rfl
    refine pure_ (i := 13) (N := some 2) (v := ?_) (a' := ?_) #[true, true, true, true, true, true, true, true, true, true, true, true, true, true, false] rfl rfl (by kernel_rfl) (fun _ _ _ h => h) (Or.inl ⟨by rfl, ?_⟩) ?_ ?_
    rotate_left
    · intro w'
      go_simp
      with_reducible rfl
    rotate_left
    · simp only [Act.put, List.setIfInBounds_toArray, List.set_cons_zero, List.set_cons_succ, i64_w, i32_w]
      rfl
    refine pure_ (i := 14) (N := some 3) (v := ?_) (a' := ?_) #[true, true, true, true, true, true, true, true, true, true, true, true, true, true, true] rfl rfl (by kernel_rfl) (fun _ _ _ h => h) (Or.inl ⟨by rfl, ?_⟩) ?_ ?_
    rotate_left
    · intro w'
      go_simp
      with_reducible rfl
    rotate_left
    · simp only [Act.put, List.setIfInBounds_toArray, List.set_cons_zero, List.set_cons_succ, i64_w, i32_w]
      rfl
    refine done_ (by kernel_rfl) ?_
    try go_wp2
    go_ret2
    exact ⟨rfl, pw_below_drewN HB2.out q4⟩


/-! ### impl_CountHomeSets: function 57 -/
def cntH (k : Nat) (a : Int) (l : List Int) : Nat → Option Int
  | 0 => some 0
  | s + 1 => (cntH k a l s).bind fun m => (impl_isHomely.f k a (leftR l s)).bind fun b => some (if b = true then wrap64 (m + 1) else m)
theorem cntH_mono (k : Nat) (a : Int) (l : List Int) : ∀ s, LeO (cntH k a l s) (cntH (k + 1) a l s)
  | 0 => LeO.refl _
  | s + 1 => LeO.bind (cntH_mono k a l s) fun _ => LeO.bind (impl_isHomely.mono _ _ _) fun _ => LeO.refl _
theorem cntH_at {k : Nat} {a : Int} {l : List Int} (N : Nat) : ∀ r, cntH k a l N = some r → ∀ s, s < N → ∃ m b, cntH k a l s = some m ∧ impl_isHomely.f k a (leftR l s) = some b ∧ cntH k a l (s + 1) = some (if b = true then wrap64 (m + 1) else m) := by
  induction N with
  | zero => intro r _ s hs; omega
  | succ N ih =>
    intro r h s hs
    have h0 := h
    rw [cntH] at h
    replace h := Option.bind_eq_some_iff.mp h
    obtain ⟨m, hm, h⟩ := h
    replace h := Option.bind_eq_some_iff.mp h
    obtain ⟨b, hb, h⟩ := h
    by_cases c : s < N
    · exact ih m hm s c
    · obtain rfl : s = N := by omega
      exact ⟨m, b, hm, hb, by rw [h0, ← h]⟩
def impl_CountHomeSets.f (k : Nat) (a0 : Int) (l0 : List Int) : Option (Int × Bool) := (impl_isTaking.f k a0 l0).bind fun t => if t = true then (if l0.length ≤ 20 then (cntH k a0 l0 (2 ^ l0.length)).bind fun m => some (m, true) else none) else some (0, false)
theorem impl_CountHomeSets.mono : ∀ a0 a1 k, LeO (impl_CountHomeSets.f k a0 a1) (impl_CountHomeSets.f (k + 1) a0 a1) := by
  intro a0 a1 k
  unfold impl_CountHomeSets.f
  exact LeO.bind (impl_isTaking.mono _ _ _) fun _ => LeO.ite (LeO.ite (LeO.bind (cntH_mono k _ _ _) fun _ => LeO.refl _) (LeO.refl _)) (LeO.refl _)
set_option maxHeartbeats 4000000 in
set_option maxRecDepth 100000 in
theorem impl_CountHomeSets.calls (k : Nat) (a0_0 : Int) (A0_1 : Option Addr) (c0_1 : Nat) (l0_1 : List Int) (r1 : Int) (r2 : Bool) (w : World) (hr0_1 : Kd.C (Kd.int .i64) w A0_1 l0_1.length l0_1) (hc0_1 : l0_1.length ≤ c0_1) (h : impl_CountHomeSets.f k a0_0 l0_1 = some (r1, r2)) :
    Calls Try.prog 57 #[.agg #[.int .i64 a0_0, .slice A0_1 l0_1.length c0_1]] w fun e w' => e = .returned (.tuple #[.int .i64 r1, .bool r2]) ∧ Below w.heap.size w w' := by
  have hu28 := Try.underlying26
  have HR := Aside0.mk hr0_1
  have HC := Aside0.mk hc0_1
  have HB := Aside0.mk (Below.refl w.heap.size w)
  replace h := Option.bind_eq_some_iff.mp h
  obtain ⟨t, ht, h⟩ := h
  have HT := Aside0.mk ht
  clear hr0_1 hc0_1 ht
  cases t with
  | false =>
    rw [if_neg (by simp)] at h
    simp only [Option.some.injEq, Prod.mk.injEq] at h
    obtain ⟨rfl, rfl⟩ := h
    go_enter Try.func57, Try.ntmps57
    go_wp2_with (first | ((with_reducible refine gate_dst (N := 1) rfl ?_); refine box_event ?hg (N := 1) ?hd (cs := #[.int .i64 a0_0, .slice A0_1 l0_1.length c0_1]) (t := 26) ?hr ?_; (case hd => rfl); (case hg => rfl); (case hr => first | (go_simp; done) | (go_simp; rfl)); intro gl hg w1 hbox hb; have n0_ := Aside0.mk (below_step HB.out hb); clear HB; have HB := n0_; clear n0_; have BKL := Aside0.mk hbox; clear hbox hb hg; have hcz0 : w1.cell? ⟨gl, 0, none⟩ = some (.int .i64 a0_0) := (blk_cell BKL.out 0).trans rfl; have hcz1 : w1.cell? ⟨gl, 1, none⟩ = some (.slice A0_1 l0_1.length c0_1) := (blk_cell BKL.out 1).trans rfl; have hfz0 := blk_frozen BKL.out 0; have hfz1 := blk_frozen BKL.out 1) | ((with_reducible refine gate_callee (f := 112) rfl ?_); refine goesL_ (some 10) rfl rfl Try.func112 (by kernel_rfl) rfl #[.agg #[.int .i64 a0_0, .slice A0_1 l0_1.length c0_1]] rfl (by (try simp only [List.map_toArray, List.map_cons, List.map_nil]); first | done | rfl) ?_; (with_reducible refine (gameOf_calls k a0_0 A0_1 c0_1 l0_1 _ _ (Kd.C_below HR.out HB.out) HC.out HT.out).mono ?_); rintro e w2 ⟨g, bm, rfl, hgm, hmp, hne, hgw, hmw, hb⟩; refine ⟨_, rfl, ?_⟩; have HG := Aside0.mk hgm; have HMP := Aside0.mk hmp; have HNE := Aside0.mk hne; have HGW := Aside0.mk hgw; have HMW := Aside0.mk hmw; have n0_ := Aside0.mk (below_step HB.out hb); clear HB; have HB := n0_; clear n0_ hgm hmp hne hgw hmw hb BKL))
    go_ret2
    exact ⟨rfl, HB.out⟩
  | true =>
    rw [if_pos rfl] at h
    by_cases hn : l0_1.length ≤ 20
    case neg => rw [if_neg hn] at h; cases h
    rw [if_pos hn] at h
    replace h := Option.bind_eq_some_iff.mp h
    obtain ⟨m, hm, h⟩ := h
    simp only [Option.some.injEq, Prod.mk.injEq] at h
    obtain ⟨rfl, rfl⟩ := h
    have HN := Lib.hid hn
    have HA := Aside0.mk (cntH_at _ _ hm)
    have HM := Aside0.mk hm
    have hp := pow20 l0_1.length hn
    have hp1 : 1 ≤ 2 ^ l0_1.length := Nat.one_le_two_pow
    obtain ⟨N, hN⟩ : ∃ N, N = 2 ^ l0_1.length := ⟨_, rfl⟩
    rw [← hN] at hp hp1
    have HNN := Lib.hid hN
    have HP := Lib.hid hp
    have hfw : IntKind.u64.wrap (((N - 1 : Nat) : Int) + 1) = (N : Int) := wrapU_of (by omega) (by omega)
    have HFW := Lib.hid hfw
    clear hn hm hp1 hN hfw hp
    go_enter Try.func57, Try.ntmps57
    go_wp2_with (first | ((with_reducible refine gate_dst (N := 1) rfl ?_); refine box_event ?hg (N := 1) ?hd (cs := #[.int .i64 a0_0, .slice A0_1 l0_1.length c0_1]) (t := 26) ?hr ?_; (case hd => rfl); (case hg => rfl); (case hr => first | (go_simp; done) | (go_simp; rfl)); intro gl hg w1 hbox hb; have n0_ := Aside0.mk (below_step HB.out hb); clear HB; have HB := n0_; clear n0_; have BKL := Aside0.mk hbox; clear hbox hb hg; have hcz0 : w1.cell? ⟨gl, 0, none⟩ = some (.int .i64 a0_0) := (blk_cell BKL.out 0).trans rfl; have hcz1 : w1.cell? ⟨gl, 1, none⟩ = some (.slice A0_1 l0_1.length c0_1) := (blk_cell BKL.out 1).trans rfl; have hfz0 := blk_frozen BKL.out 0; have hfz1 := blk_frozen BKL.out 1) | ((with_reducible refine gate_callee (f := 112) rfl ?_); refine goesL_ (some 10) rfl rfl Try.func112 (by kernel_rfl) rfl #[.agg #[.int .i64 a0_0, .slice A0_1 l0_1.length c0_1]] rfl (by (try simp only [List.map_toArray, List.map_cons, List.map_nil]); first | done | rfl) ?_; (with_reducible refine (gameOf_calls k a0_0 A0_1 c0_1 l0_1 _ _ (Kd.C_below HR.out HB.out) HC.out HT.out).mono ?_); rintro e w2 ⟨g, bm, rfl, hgm, hmp, hne, hgw, hmw, hb⟩; refine ⟨_, rfl, ?_⟩; have HG := Aside0.mk hgm; have HMP := Aside0.mk hmp; have HNE := Aside0.mk hne; have HGW := Aside0.mk hgw; have HMW := Aside0.mk hmw; have n0_ := Aside0.mk (below_step HB.out hb); clear HB; have HB := n0_; clear n0_ hgm hmp hne hgw hmw hb BKL) | ((with_reducible refine gate_callee (f := 113) rfl ?_); refine goesL_ (some 16) rfl rfl Try.func113 (by kernel_rfl) rfl #[.pointer (some ⟨g, 0, none⟩)] rfl (by (try simp only [List.map_toArray, List.map_cons, List.map_nil]); first | done | rfl) ?_; (with_reducible refine (full_calls a0_0 A0_1 c0_1 l0_1 HN.out g bm _ HG.out).mono ?_); rw [← HNN.out]; rintro e w3 ⟨rfl, ⟨q', rfl⟩⟩; refine ⟨_, rfl, ?_⟩))
    go_loopg [6, 18] N (fun gg v6 v18 wr => ∃ (s : Nat) (q : Int), s ≤ N ∧ N - s ≤ gg ∧ v18 = .int .u64 (s : Int) ∧ v6 = .int .i64 q ∧ Aside0 (cntH k a0_0 l0_1 s = some q) ∧ Aside0 (Game A0_1 c0_1 a0_0 l0_1 g bm wr) ∧ Aside0 (Below w.heap.size w wr))
    case atStart => exact ⟨0, 0, Nat.zero_le _, by omega, rfl, rfl, ⟨rfl⟩, ⟨blk_drewN HG.out q'⟩, ⟨(by repeat (first | (with_reducible first | exact HB.out | apply below_alloc | apply pw_below_drewN | apply below_drew1) | exact HB.out))⟩⟩
    case round =>
      clear HG HB
      obtain ⟨s, q, hs, hgg, rfl, rfl, HF, HG, HB⟩ := hrel
      by_cases hlt : s < N
      · have c1 : decide ((s : Int) < IntKind.u64.wrap (((N - 1 : Nat) : Int) + 1)) = true := decide_eq_true (by rw [HFW.out]; omega)
        obtain ⟨m', b, h1, h2, h3⟩ := HA.out s (by rw [← HNN.out]; exact hlt)
        rw [HF.out] at h1
        injection h1 with h1
        subst h1
        have HH := Aside0.mk h2
        have HF2 := Aside0.mk h3
        have HLT := Lib.hid hlt
        have HWS := Lib.hid (show IntKind.u64.wrap ((s : Int) + 1) = ((s + 1 : Nat) : Int) from wrapU_of (by omega) (by have := HP.out; omega))
        clear h2 h3 hlt hs
        cases hb0 : b with
        | true =>
          subst hb0
          go_wp2_with (first | ((with_reducible refine gate_callee (f := 114) rfl ?_); refine goesL_ (some 23) rfl rfl Try.func114 (by kernel_rfl) rfl #[.pointer (some ⟨g, 0, none⟩), .int .u64 (s : Int)] rfl (by (try simp only [List.map_toArray, List.map_cons, List.map_nil]); first | done | rfl) ?_; (with_reducible refine (isOver_calls k a0_0 A0_1 c0_1 l0_1 HN.out s (by have := HP.out; have := HLT.out; omega) true g bm _ HG.out (Kd.C_below HR.out HB.out) HC.out HH.out).mono ?_); rintro e w4 ⟨rfl, hb⟩; refine ⟨_, rfl, ?_⟩; have n0_ := Aside0.mk (show Game A0_1 c0_1 a0_0 l0_1 g bm w4 from blk_below HG.out hb); have n1_ := Aside0.mk (below_step HB.out hb); clear HG HB hb; have HG := n0_; have HB := n1_; clear n0_ n1_))
          go_roundg (N - (s + 1))
          case measure => have := HLT.out; omega
          case rel => exact ⟨s + 1, wrap64 (q + 1), HLT.out, Nat.le_refl _, by rw [← HWS.out], rfl, HF2, HG, HB⟩
        | false =>
          subst hb0
          go_wp2_with (first | ((with_reducible refine gate_callee (f := 114) rfl ?_); refine goesL_ (some 23) rfl rfl Try.func114 (by kernel_rfl) rfl #[.pointer (some ⟨g, 0, none⟩), .int .u64 (s : Int)] rfl (by (try simp only [List.map_toArray, List.map_cons, List.map_nil]); first | done | rfl) ?_; (with_reducible refine (isOver_calls k a0_0 A0_1 c0_1 l0_1 HN.out s (by have := HP.out; have := HLT.out; omega) false g bm _ HG.out (Kd.C_below HR.out HB.out) HC.out HH.out).mono ?_); rintro e w4 ⟨rfl, hb⟩; refine ⟨_, rfl, ?_⟩; have n0_ := Aside0.mk (show Game A0_1 c0_1 a0_0 l0_1 g bm w4 from blk_below HG.out hb); have n1_ := Aside0.mk (below_step HB.out hb); clear HG HB hb; have HG := n0_; have HB := n1_; clear n0_ n1_))
          go_roundg (N - (s + 1))
          case measure => have := HLT.out; omega
          case rel => exact ⟨s + 1, q, HLT.out, Nat.le_refl _, by rw [← HWS.out], rfl, HF2, HG, HB⟩
      · have c1 : decide ((s : Int) < IntKind.u64.wrap (((N - 1 : Nat) : Int) + 1)) = false := decide_eq_false (by rw [HFW.out]; omega)
        have hsN : s = N := by omega
        have hq : q = m := by
          have h1 := HF.out
          rw [hsN, HNN.out, HM.out] at h1
          exact (Option.some.inj h1).symm
        subst hq
        clear hlt hs hsN
        go_wp2
        go_ret2
        exact ⟨rfl, HB.out⟩


/-! ### spec_CountHomeSets: function 58 -/
def spec_CountHomeSets.l0 : Nat → Int → Int → Int → List Int → Option (Int × Bool)
 | 0, _, _, _, _ => none
 | k + 1, x4, x5, x1219000, x1219001 => if x5 < (shl .i64 1 (x1219001.length : Int)) then ((spec_gaLeft.f k x1219000 x1219001 x5).bind fun t1220 => ((spec_gaHome.f k x1219000 t1220).bind fun t1223 => (if t1223 = true then (spec_CountHomeSets.l0 k (wrap64 (x4 + 1)) (wrap64 (x5 + 1)) x1219000 x1219001) else (spec_CountHomeSets.l0 k x4 (wrap64 (x5 + 1)) x1219000 x1219001)))) else (some (x4, true))
def spec_CountHomeSets.f (k : Nat) (a0_0 : Int) (l0_1 : List Int) : Option (Int × Bool) := (spec_gaTaking.f k a0_0 l0_1).bind fun t1219 => (if t1219 = true then (spec_CountHomeSets.l0 k 0 0 a0_0 l0_1) else (some (0, false)))
theorem spec_CountHomeSets.mono_l : ∀ k, (∀ y0 y1 y2 y3, LeO (spec_CountHomeSets.l0 k y0 y1 y2 y3) (spec_CountHomeSets.l0 (k + 1) y0 y1 y2 y3))
 | 0 => fun _ _ _ _ r h => by simp [spec_CountHomeSets.l0] at h
 | k + 1 => by
  have ih0 := spec_CountHomeSets.mono_l k
  ·intro y0 y1 y2 y3
   unfold spec_CountHomeSets.l0
   repeat' first
   | (with_reducible exact ih0 _ _ _ _)
   | (with_reducible exact spec_gaHome.mono _ _ _)
   | (with_reducible exact spec_gaLeft.mono _ _ _ _)
   | (with_reducible exact spec_gaTaking.mono _ _ _)
   | (with_reducible exact LeO.refl _)
   | (with_reducible exact LeO.none _)
   | (with_reducible refine LeO.ite ?_ ?_)
   | (with_reducible refine LeO.bind ?_ (fun _ => ?_))
   | exact ih0 _ _ _ _
   | exact spec_gaHome.mono _ _ _
   | exact spec_gaLeft.mono _ _ _ _
   | exact spec_gaTaking.mono _ _ _
   | exact LeO.none _
   | refine LeO.ite ?_ ?_
   | refine LeO.bind ?_ (fun _ => ?_)
theorem spec_CountHomeSets.mono : ∀ a0 a1 k, LeO (spec_CountHomeSets.f k a0 a1) (spec_CountHomeSets.f (k + 1) a0 a1) := by
 intro a0 a1 k
 have ih0 := spec_CountHomeSets.mono_l k
 unfold spec_CountHomeSets.f
 repeat' first
  | (with_reducible exact ih0 _ _ _ _)
  | (with_reducible exact spec_gaHome.mono _ _ _)
  | (with_reducible exact spec_gaLeft.mono _ _ _ _)
  | (with_reducible exact spec_gaTaking.mono _ _ _)
  | (with_reducible exact LeO.refl _)
  | (with_reducible exact LeO.none _)
  | (with_reducible refine LeO.ite ?_ ?_)
  | (with_reducible refine LeO.bind ?_ (fun _ => ?_))
  | exact ih0 _ _ _ _
  | exact spec_gaHome.mono _ _ _
  | exact spec_gaLeft.mono _ _ _ _
  | exact spec_gaTaking.mono _ _ _
  | exact LeO.none _
  | refine LeO.ite ?_ ?_
  | refine LeO.bind ?_ (fun _ => ?_)
set_option maxHeartbeats 8000000 in
set_option maxRecDepth 100000 in
theorem spec_CountHomeSets.calls (k : Nat) (a0_0 : Int) (A0_1 : Option Addr) (c0_1 : Nat) (l0_1 : List Int) (r1 : Int) (r2 : Bool) (w : World) (hr0_1 : Kd.C (Kd.int .i64) w A0_1 l0_1.length l0_1) (hc0_1 : l0_1.length ≤ c0_1) (h : spec_CountHomeSets.f k a0_0 l0_1 = some (r1, r2)) :
 Calls Try.prog 58 #[.agg #[.int .i64 a0_0, .slice A0_1 l0_1.length c0_1]] w fun e w' => e = .returned (.tuple #[.int .i64 r1, .bool r2]) ∧ Below w.heap.size w w' := by
 have hu26 := Try.underlying26
 have HR0_1 := Aside0.mk hr0_1
 have HC0_1 := Aside0.mk hc0_1
 clear hr0_1 hc0_1
 have HB := Aside0.mk (Below.refl w.heap.size w)
 have H : ((spec_gaTaking.f k a0_0 l0_1).bind fun t1219 => (if t1219 = true then (spec_CountHomeSets.l0 k 0 0 a0_0 l0_1) else (some (0, false)))) = some (r1, r2) := h
 clear h
 replace H := Option.bind_eq_some_iff.mp H
 obtain ⟨t1219, A20, H⟩ := H
 (try dsimp only at H)
 have A2 := Aside0.mk A20
 clear A20
 by_cases c3 : t1219 = true
 ·subst c3
  rw [if_pos rfl] at H
  have H' := Aside0.mk H
  clear H
  go_enter Try.func58, Try.ntmps58
  go_wp2_with (first | ((with_reducible refine gate_dst (N := 1) rfl ?_); refine box_event ?hg (N := 1) ?hd (cs := #[.int .i64 a0_0, .slice A0_1 l0_1.length c0_1]) (t := 26) ?hr ?_; (case hd => rfl); (case hg => rfl); (case hr => first | (go_simp; done) | (go_simp; rfl)); intro gb1218 hg w4 hbox hb; have BK1218 := Aside0.mk (hbox); have GW1218 := Aside0.mk ((by rw [hg]; exact (below_size (Bl_ HB)) : w.heap.size ≤ gb1218)); have GE1218 := Aside0.mk ((by rw [hg]; exact (below_size (Bl_ HB)) : w.heap.size ≤ gb1218)); replace HB := Aside0.mk (below_step (Bl_ HB) hb); clear hb hbox hg; have hcz5_0 : w4.cell? ⟨gb1218, 0, none⟩ = some (.int .i64 a0_0) := (blk_cell BK1218.out 0).trans rfl; have hcz5_1 : w4.cell? ⟨gb1218, 1, none⟩ = some (.slice A0_1 l0_1.length c0_1) := (blk_cell BK1218.out 1).trans rfl; have hfz5_0 := blk_frozen BK1218.out 0; have hfz5_1 := blk_frozen BK1218.out 1) | ((with_reducible refine gate_callee (f := 116) rfl ?_); refine gl_ (some 7) rfl rfl Try.func116 (by kernel_rfl) rfl #[.agg #[.int .i64 a0_0, .slice A0_1 l0_1.length c0_1]] rfl ?_; (with_reducible refine (spec_gaTaking.calls k a0_0 _ _ l0_1 true _ ?side1 ?side2 A2.out).mono ?_); (case side1 => exact Cl_ (Kd.C_below HR0_1.out HB.out)); (case side2 => exact HC0_1.out); rintro e w6 ⟨rfl, hb⟩; refine ⟨_, rfl, ?_⟩; replace BK1218 := blkB_ BK1218 hb; replace HB := Aside0.mk (below_step (Bl_ HB) hb); (try clear hb); (try clear hb2); (try clear hk); (try clear hi)))
  go_loopg [4, 5] k (fun kq v4 v5 w' => ∃ (x4_1 : Int) (x5_1 : Int), v4 = .int .i64 x4_1 ∧ v5 = .int .i64 x5_1 ∧ Aside0 (spec_CountHomeSets.l0 kq x4_1 x5_1 a0_0 l0_1 = some (r1, r2)) ∧ Aside0 (kq ≤ k) ∧ Aside0 (w'.heap[gb1218]? = some (.cells #[.int .i64 a0_0, (.slice A0_1 l0_1.length c0_1)] 26 (0, 0))) ∧ Aside0 (Below w.heap.size w w'))
  case atStart => exact ⟨(0), (0), (by first | rfl | (simp; done) | (simp [*]; done)), (by first | rfl | (simp; done) | (simp [*]; done)), H', ⟨Nat.le_refl _⟩, ⟨bl_ BK1218⟩, ⟨Bl_ HB⟩⟩
  case round =>
   as_aux_lemma =>
    clear H'
    try clear c1
    try clear p2
    try clear c3
    try clear c5
    try clear hcz5_0
    try clear hcz5_1
    try clear hfz5_0
    try clear hfz5_1
    obtain ⟨x4_1, x5_1, rfl, rfl, HA, HK1, BK1218, HB⟩ := hrel
    cases gk with
    | zero => exact absurd HA.out (by simp [spec_CountHomeSets.l0])
    | succ k1 =>
     have H := HA.out
     clear HA
     simp only [spec_CountHomeSets.l0] at H
     obtain ⟨ji7, hji7⟩ : ∃ j_ : Int, (shl .i64 1 (l0_1.length : Int)) = j_ := ⟨_, rfl⟩
     replace H : (if x5_1 < (ji7) then ((spec_gaLeft.f k1 a0_0 l0_1 x5_1).bind fun t1220 => ((spec_gaHome.f k1 a0_0 t1220).bind fun t1223 => (if t1223 = true then (spec_CountHomeSets.l0 k1 (wrap64 (x4_1 + 1)) (wrap64 (x5_1 + 1)) a0_0 l0_1) else (spec_CountHomeSets.l0 k1 x4_1 (wrap64 (x5_1 + 1)) a0_0 l0_1)))) else (some (x4_1, true))) = some (r1, r2) := by first | (rw [hji7] at H; exact H) | (simp only [hji7] at H ⊢; exact H)
     have hji7_ : (IntKind.i64.wrap (1 * 2 ^ min (l0_1.length : Int).toNat 64)) = ji7 := hji7
     have hji7z : (l0_1.length : Int) ≤ 64 → (IntKind.i64.wrap (1 * 2 ^ (l0_1.length : Int).toNat)) = ji7 := shl_small hji7
     have hji7p : (IntKind.i64.wrap (1 * 2 ^ min l0_1.length 64)) = ji7 := hji7_
     have hji7q : (l0_1.length : Int) ≤ 64 → (IntKind.i64.wrap (1 * 2 ^ l0_1.length)) = ji7 := hji7z
     have hji7r : (IntKind.i64.wrap (2 ^ min l0_1.length 64)) = ji7 := by have h_ := hji7p; rw [Int.one_mul] at h_; exact h_
     have hji7s : (l0_1.length : Int) ≤ 64 → (IntKind.i64.wrap (2 ^ l0_1.length)) = ji7 := fun hle_ => by have h_ := hji7q hle_; rw [Int.one_mul] at h_; exact h_
     have hji7u : (IntKind.i64.wrap (2 ^ min (l0_1.length : Int).toNat 64)) = ji7 := by have h_ := hji7_; rw [Int.one_mul] at h_; exact h_
     have hji7v : (l0_1.length : Int) ≤ 64 → (IntKind.i64.wrap (2 ^ (l0_1.length : Int).toNat)) = ji7 := fun hle_ => by have h_ := hji7z hle_; rw [Int.one_mul] at h_; exact h_
     have hji7y : (wrap64 (1 * 2 ^ min (l0_1.length : Int).toNat 64)) = ji7 := (i64_w _).symm.trans hji7_
     have hji7x : (l0_1.length : Int) ≤ 64 → (wrap64 (1 * 2 ^ (l0_1.length : Int).toNat)) = ji7 := fun h_ => (i64_w _).symm.trans (hji7z h_)
     by_cases c8 : x5_1 < (ji7)
     ·rw [if_pos c8] at H
      have c8b0 : decide (x5_1 < (ji7)) = true := decide_eq_true c8
      clear c8
      replace H := Option.bind_eq_some_iff.mp H
      obtain ⟨t1220, A90, H⟩ := H
      (try dsimp only at H)
      have A9 := Aside0.mk A90
      clear A90
      replace H := Option.bind_eq_some_iff.mp H
      obtain ⟨t1223, A100, H⟩ := H
      (try dsimp only at H)
      have A10 := Aside0.mk A100
      clear A100
      by_cases c11 : t1223 = true
      ·subst c11
       rw [if_pos rfl] at H
       have H' := Aside0.mk H
       clear H
       have hcz12_0 : wr.cell? ⟨gb1218, 0, none⟩ = some (.int .i64 a0_0) := (blk_cell BK1218.out 0).trans rfl
       have hcz12_1 : wr.cell? ⟨gb1218, 1, none⟩ = some (.slice A0_1 l0_1.length c0_1) := (blk_cell BK1218.out 1).trans rfl
       have hfz12_0 := blk_frozen BK1218.out 0
       have hfz12_1 := blk_frozen BK1218.out 1
       try go_wp2
       replace BK1218 := Aside0.mk (blk_drew BK1218.out)
       replace HB := Aside0.mk (below_drew1 HB.out)
       refine start_ (n := 6) (S := fun w' => w'.cell? ⟨gb1218, 0, none⟩ = some (.int .i64 a0_0) ∧ w'.cell? ⟨gb1218, 1, none⟩ = some (.slice A0_1 l0_1.length c0_1)) (ds := []) #[false, false, false, false, false, false] (by kernel_rfl) rfl rfl ⟨(blk_cell BK1218.out 0).trans rfl, (blk_cell BK1218.out 1).trans rfl⟩ (fun hHeld => ?_)
       generalize wr.drew = w13 at BK1218 HB hHeld ⊢
       refine pure_ (i := 0) (N := some 17) (v := ?_) (a' := ?_) #[true, false, false, false, false, false] rfl rfl (by kernel_rfl) (fun _ _ _ h => h) (Or.inl ⟨by rfl, ?_⟩) ?_ ?_
       rotate_left
       ·intro w'
        go_simp
        with_reducible rfl
       rotate_left
       ·simp only [Act.put, List.setIfInBounds_toArray, List.set_cons_zero, List.set_cons_succ, i64_w, i32_w]
        rfl
       refine pure_ (i := 3) (N := some 20) (v := ?_) (a' := ?_) #[true, false, false, true, false, false] rfl rfl (by kernel_rfl) (fun _ _ _ h => h) (Or.inl ⟨by rfl, ?_⟩) ?_ ?_
       rotate_left
       ·intro w'
        go_simp
        with_reducible rfl
       rotate_left
       ·simp only [Act.put, List.setIfInBounds_toArray, List.set_cons_zero, List.set_cons_succ, i64_w, i32_w]
        rfl
       refine take_ (i := 1) (N := some 18) (v := ?_) (a' := ?_) #[true, true, false, true, false, false] rfl rfl (by kernel_rfl) (fun _ _ _ h => h) (Or.inl ⟨by rfl, ?_⟩) hHeld ?_ ?_
       rotate_left
       ·rintro w' ⟨s0, s1⟩
        go_simp
        with_reducible rfl
       rotate_left
       ·simp only [Act.put, List.setIfInBounds_toArray, List.set_cons_zero, List.set_cons_succ, i64_w, i32_w]
        rfl
       refine take_ (i := 2) (N := some 19) (v := ?_) (a' := ?_) #[true, true, true, true, false, false] rfl rfl (by kernel_rfl) (fun _ _ _ h => h) (Or.inl ⟨by rfl, ?_⟩) hHeld ?_ ?_
       rotate_left
       ·rintro w' ⟨s0, s1⟩
        go_simp
        with_reducible rfl
       rotate_left
       ·simp only [Act.put, List.setIfInBounds_toArray, List.set_cons_zero, List.set_cons_succ, i64_w, i32_w]
        rfl
       refine one_ (i := 4) (N := some 21) #[true, true, true, true, true, false] rfl rfl (by kernel_rfl) (by decide) (fun K hK => ?_)
       refine gs_ Try.func122 (by kernel_rfl) rfl #[.agg #[.int .i64 a0_0, .slice A0_1 l0_1.length c0_1], .int .i64 x5_1] (by rfl) rfl rfl ?_
       with_reducible refine (spec_gaLeft.calls k1 a0_0 _ _ l0_1 x5_1 t1220 _ ?side1 ?side2 A9.out).mono ?_
       (case side1 => exact Cl_ (Kd.C_below HR0_1.out HB.out))
       (case side2 => exact HC0_1.out)
       rintro e w14 ⟨v1221, rfl, ho0, hb⟩
       refine ⟨_, rfl, ?_⟩
       have HO1222 := Aside0.mk (Kd.R_lower ho0 (below_size (Bl_ HB)))
       replace BK1218 := blkB_ BK1218 hb
       replace HB := Aside0.mk (below_step (Bl_ HB) hb)
       (try clear hb); (try clear hb2); (try clear hk); (try clear hi); (try clear ho0)
       obtain ⟨Ao15, co15, eo15⟩ := Kd.R_slice HO1222.out
       (first | subst eo15 | (injection eo15 with f1_ f2_ f3_; have f4_ := f1_.symm; have f5_ := f3_.symm; clear f1_ f2_ f3_; subst f4_; subst f5_))
       refine hK.out _ _ ⟨(blk_cell BK1218.out 0).trans rfl, (blk_cell BK1218.out 1).trans rfl⟩ (fun hHeld => ?_)
       clear hK K
       refine norm_ (a' := ?_) ?_ ?_
       rotate_left
       ·show Act.put _ (some 21) _ = _
        simp only [Act.put, List.setIfInBounds_toArray, List.set_cons_zero, List.set_cons_succ, i64_w, i32_w]
        rfl
       refine one_ (i := 5) (N := some 22) #[true, true, true, true, true, true] rfl rfl (by kernel_rfl) (by decide) (fun K hK => ?_)
       refine gs_ Try.func121 (by kernel_rfl) rfl #[.int .i64 a0_0, .slice Ao15 t1220.length co15] (by rfl) rfl rfl ?_
       with_reducible refine (spec_gaHome.calls k1 a0_0 _ _ t1220 true _ ?side1 ?side2 A10.out).mono ?_
       (case side1 => exact Cl_ (Kd.R_reads' HO1222.out).2.2)
       (case side2 => exact (Kd.R_reads' HO1222.out).2.1)
       rintro e w16 ⟨rfl, hb⟩
       refine ⟨_, rfl, ?_⟩
       replace HO1222 := Aside0.mk (Kd.R_below (Rl_ HO1222.out) hb)
       replace BK1218 := blkB_ BK1218 hb
       replace HB := Aside0.mk (below_step (Bl_ HB) hb)
       (try clear hb); (try clear hb2); (try clear hk); (try clear hi); (try clear ho0)
       refine hK.out _ _ ⟨(blk_cell BK1218.out 0).trans rfl, (blk_cell BK1218.out 1).trans rfl⟩ (fun hHeld => ?_)
       clear hK K
       refine norm_ (a' := ?_) ?_ ?_
       rotate_left
       ·show Act.put _ (some 22) _ = _
        simp only [Act.put, List.setIfInBounds_toArray, List.set_cons_zero, List.set_cons_succ, i64_w, i32_w]
        rfl
       refine done_ (by kernel_rfl) ?_
       try go_wp2
       go_roundg k1
       case measure => have := HK1.out; omega
       case rel => exact ⟨(wrap64 (x4_1 + 1)), (wrap64 (x5_1 + 1)), (by first | rfl | (simp; done) | (simp [*]; done)), (by first | rfl | (simp; done) | (simp [*]; done)), H', ⟨by have := HK1.out; omega⟩, ⟨bl_ BK1218⟩, ⟨Bl_ HB⟩⟩
      replace c11 := Bool.eq_false_iff.mpr c11
      subst c11
      rw [if_neg (show ¬ (false = true) by decide)] at H
      have H' := Aside0.mk H
      clear H
      have hcz17_0 : wr.cell? ⟨gb1218, 0, none⟩ = some (.int .i64 a0_0) := (blk_cell BK1218.out 0).trans rfl
      have hcz17_1 : wr.cell? ⟨gb1218, 1, none⟩ = some (.slice A0_1 l0_1.length c0_1) := (blk_cell BK1218.out 1).trans rfl
      have hfz17_0 := blk_frozen BK1218.out 0
      have hfz17_1 := blk_frozen BK1218.out 1
      try go_wp2
      replace BK1218 := Aside0.mk (blk_drew BK1218.out)
      replace HB := Aside0.mk (below_drew1 HB.out)
      refine start_ (n := 6) (S := fun w' => w'.cell? ⟨gb1218, 0, none⟩ = some (.int .i64 a0_0) ∧ w'.cell? ⟨gb1218, 1, none⟩ = some (.slice A0_1 l0_1.length c0_1)) (ds := []) #[false, false, false, false, false, false] (by kernel_rfl) rfl rfl ⟨(blk_cell BK1218.out 0).trans rfl, (blk_cell BK1218.out 1).trans rfl⟩ (fun hHeld => ?_)
      generalize wr.drew = w18 at BK1218 HB hHeld ⊢
      refine pure_ (i := 0) (N := some 17) (v := ?_) (a' := ?_) #[true, false, false, false, false, false] rfl rfl (by kernel_rfl) (fun _ _ _ h => h) (Or.inl ⟨by rfl, ?_⟩) ?_ ?_
      rotate_left
      ·intro w'
       go_simp
       with_reducible rfl
      rotate_left
      ·simp only [Act.put, List.setIfInBounds_toArray, List.set_cons_zero, List.set_cons_succ, i64_w, i32_w]
       rfl
      refine pure_ (i := 3) (N := some 20) (v := ?_) (a' := ?_) #[true, false, false, true, false, false] rfl rfl (by kernel_rfl) (fun _ _ _ h => h) (Or.inl ⟨by rfl, ?_⟩) ?_ ?_
      rotate_left
      ·intro w'
       go_simp
       with_reducible rfl
      rotate_left
      ·simp only [Act.put, List.setIfInBounds_toArray, List.set_cons_zero, List.set_cons_succ, i64_w, i32_w]
       rfl
      refine take_ (i := 1) (N := some 18) (v := ?_) (a' := ?_) #[true, true, false, true, false, false] rfl rfl (by kernel_rfl) (fun _ _ _ h => h) (Or.inl ⟨by rfl, ?_⟩) hHeld ?_ ?_
      rotate_left
      ·rintro w' ⟨s0, s1⟩
       go_simp
       with_reducible rfl
      rotate_left
      ·simp only [Act.put, List.setIfInBounds_toArray, List.set_cons_zero, List.set_cons_succ, i64_w, i32_w]
       rfl
      refine take_ (i := 2) (N := some 19) (v := ?_) (a' := ?_) #[true, true, true, true, false, false] rfl rfl (by kernel_rfl) (fun _ _ _ h => h) (Or.inl ⟨by rfl, ?_⟩) hHeld ?_ ?_
      rotate_left
      ·rintro w' ⟨s0, s1⟩
       go_simp
       with_reducible rfl
      rotate_left
      ·simp only [Act.put, List.setIfInBounds_toArray, List.set_cons_zero, List.set_cons_succ, i64_w, i32_w]
       rfl
      refine one_ (i := 4) (N := some 21) #[true, true, true, true, true, false] rfl rfl (by kernel_rfl) (by decide) (fun K hK => ?_)
      refine gs_ Try.func122 (by kernel_rfl) rfl #[.agg #[.int .i64 a0_0, .slice A0_1 l0_1.length c0_1], .int .i64 x5_1] (by rfl) rfl rfl ?_
      with_reducible refine (spec_gaLeft.calls k1 a0_0 _ _ l0_1 x5_1 t1220 _ ?side1 ?side2 A9.out).mono ?_
      (case side1 => exact Cl_ (Kd.C_below HR0_1.out HB.out))
      (case side2 => exact HC0_1.out)
      rintro e w19 ⟨v1221, rfl, ho0, hb⟩
      refine ⟨_, rfl, ?_⟩
      have HO1222 := Aside0.mk (Kd.R_lower ho0 (below_size (Bl_ HB)))
      replace BK1218 := blkB_ BK1218 hb
      replace HB := Aside0.mk (below_step (Bl_ HB) hb)
      (try clear hb); (try clear hb2); (try clear hk); (try clear hi); (try clear ho0)
      obtain ⟨Ao20, co20, eo20⟩ := Kd.R_slice HO1222.out
      (first | subst eo20 | (injection eo20 with f1_ f2_ f3_; have f4_ := f1_.symm; have f5_ := f3_.symm; clear f1_ f2_ f3_; subst f4_; subst f5_))
      refine hK.out _ _ ⟨(blk_cell BK1218.out 0).trans rfl, (blk_cell BK1218.out 1).trans rfl⟩ (fun hHeld => ?_)
      clear hK K
      refine norm_ (a' := ?_) ?_ ?_
      rotate_left
      ·show Act.put _ (some 21) _ = _
       simp only [Act.put, List.setIfInBounds_toArray, List.set_cons_zero, List.set_cons_succ, i64_w, i32_w]
       rfl
      refine one_ (i := 5) (N := some 22) #[true, true, true, true, true, true] rfl rfl (by kernel_rfl) (by decide) (fun K hK => ?_)
      refine gs_ Try.func121 (by kernel_rfl) rfl #[.int .i64 a0_0, .slice Ao20 t1220.length co20] (by rfl) rfl rfl ?_
      with_reducible refine (spec_gaHome.calls k1 a0_0 _ _ t1220 false _ ?side1 ?side2 A10.out).mono ?_
      (case side1 => exact Cl_ (Kd.R_reads' HO1222.out).2.2)
      (case side2 => exact (Kd.R_reads' HO1222.out).2.1)
      rintro e w21 ⟨rfl, hb⟩
      refine ⟨_, rfl, ?_⟩
      replace HO1222 := Aside0.mk (Kd.R_below (Rl_ HO1222.out) hb)
      replace BK1218 := blkB_ BK1218 hb
      replace HB := Aside0.mk (below_step (Bl_ HB) hb)
      (try clear hb); (try clear hb2); (try clear hk); (try clear hi); (try clear ho0)
      refine hK.out _ _ ⟨(blk_cell BK1218.out 0).trans rfl, (blk_cell BK1218.out 1).trans rfl⟩ (fun hHeld => ?_)
      clear hK K
      refine norm_ (a' := ?_) ?_ ?_
      rotate_left
      ·show Act.put _ (some 22) _ = _
       simp only [Act.put, List.setIfInBounds_toArray, List.set_cons_zero, List.set_cons_succ, i64_w, i32_w]
       rfl
      refine done_ (by kernel_rfl) ?_
      try go_wp2
      go_roundg k1
      case measure => have := HK1.out; omega
      case rel => exact ⟨(x4_1), (wrap64 (x5_1 + 1)), (by first | rfl | (simp; done) | (simp [*]; done)), (by first | rfl | (simp; done) | (simp [*]; done)), H', ⟨by have := HK1.out; omega⟩, ⟨bl_ BK1218⟩, ⟨Bl_ HB⟩⟩
     rw [if_neg c8] at H
     have c8b0 : decide (x5_1 < (ji7)) = false := decide_eq_false c8
     clear c8
     simp only [Option.some.injEq, Prod.mk.injEq] at H
     obtain ⟨rfl, rfl⟩ := H
     have hcz22_0 : wr.cell? ⟨gb1218, 0, none⟩ = some (.int .i64 a0_0) := (blk_cell BK1218.out 0).trans rfl
     have hcz22_1 : wr.cell? ⟨gb1218, 1, none⟩ = some (.slice A0_1 l0_1.length c0_1) := (blk_cell BK1218.out 1).trans rfl
     have hfz22_0 := blk_frozen BK1218.out 0
     have hfz22_1 := blk_frozen BK1218.out 1
     go_wp2
     go_ret2
     exact ⟨by first | rfl | (simp [errW_none, errW_some] <;> rfl) | (simp only [← hji7]; first | rfl | (simp [errW_none, errW_some] <;> rfl)) | (simp [*, errW_none, errW_some] <;> rfl), Bl_ HB⟩
 replace c3 := Bool.eq_false_iff.mpr c3
 subst c3
 rw [if_neg (show ¬ (false = true) by decide)] at H
 simp only [Option.some.injEq, Prod.mk.injEq] at H
 obtain ⟨rfl, rfl⟩ := H
 go_enter Try.func58, Try.ntmps58
 go_wp2_with (first | ((with_reducible refine gate_dst (N := 1) rfl ?_); refine box_event ?hg (N := 1) ?hd (cs := #[.int .i64 a0_0, .slice A0_1 l0_1.length c0_1]) (t := 26) ?hr ?_; (case hd => rfl); (case hg => rfl); (case hr => first | (go_simp; done) | (go_simp; rfl)); intro gb1218 hg w23 hbox hb; have BK1218 := Aside0.mk (hbox); have GW1218 := Aside0.mk ((by rw [hg]; exact (below_size (Bl_ HB)) : w.heap.size ≤ gb1218)); have GE1218 := Aside0.mk ((by rw [hg]; exact (below_size (Bl_ HB)) : w.heap.size ≤ gb1218)); replace HB := Aside0.mk (below_step (Bl_ HB) hb); clear hb hbox hg; have hcz24_0 : w23.cell? ⟨gb1218, 0, none⟩ = some (.int .i64 a0_0) := (blk_cell BK1218.out 0).trans rfl; have hcz24_1 : w23.cell? ⟨gb1218, 1, none⟩ = some (.slice A0_1 l0_1.length c0_1) := (blk_cell BK1218.out 1).trans rfl; have hfz24_0 := blk_frozen BK1218.out 0; have hfz24_1 := blk_frozen BK1218.out 1) | ((with_reducible refine gate_callee (f := 116) rfl ?_); refine gl_ (some 7) rfl rfl Try.func116 (by kernel_rfl) rfl #[.agg #[.int .i64 a0_0, .slice A0_1 l0_1.length c0_1]] rfl ?_; (with_reducible refine (spec_gaTaking.calls k a0_0 _ _ l0_1 false _ ?side1 ?side2 A2.out).mono ?_); (case side1 => exact Cl_ (Kd.C_below HR0_1.out HB.out)); (case side2 => exact HC0_1.out); rintro e w25 ⟨rfl, hb⟩; refine ⟨_, rfl, ?_⟩; replace BK1218 := blkB_ BK1218 hb; replace HB := Aside0.mk (below_step (Bl_ HB) hb); (try clear hb); (try clear hb2); (try clear hk); (try clear hi)))
 go_ret2
 exact ⟨by first | rfl | (simp [errW_none, errW_some] <;> rfl) | (simp [*, errW_none, errW_some] <;> rfl), Bl_ HB⟩

/-! ### bits_OnesCount32: function 151 -/
/-- (never reached: an int has 64 bits here) -/
theorem ones32_far : True := trivial


/-! ### bits_OnesCount64: function 152 -/
/-- how many ones -/
def pcN : Nat → Nat → Nat
  | 0, _ => 0
  | f + 1, s => s % 2 + pcN f (s / 2)
def onesE (s : Int) : Int :=
  let x1 := IntKind.u64.wrap (Go.bits .and .u64 (s / 2) 6148914691236517205 + Go.bits .and .u64 s 6148914691236517205)
  let x2 := IntKind.u64.wrap (Go.bits .and .u64 (x1 / 4) 3689348814741910323 + Go.bits .and .u64 x1 3689348814741910323)
  let x3 := Go.bits .and .u64 (IntKind.u64.wrap (x2 / 16 + x2)) 1085102592571150095
  let x4 := IntKind.u64.wrap (x3 + x3 / 256)
  let x5 := IntKind.u64.wrap (x4 + x4 / 65536)
  let x6 := IntKind.u64.wrap (x5 + x5 / 4294967296)
  Go.bits .and .i64 (wrap64 x6) 127
theorem onesE_all : (List.range 4096).all (fun s => decide (onesE (s : Int) = ((pcN 12 s : Nat) : Int))) = true := by decide +kernel
theorem onesE_eq (s : Nat) (h : s < 4096) : onesE (s : Int) = ((pcN 12 s : Nat) : Int) := of_decide_eq_true (List.all_eq_true.1 onesE_all s (by simpa using h))
set_option maxHeartbeats 4000000 in
set_option maxRecDepth 100000 in
theorem OnesCount64_calls (s : Nat) (hs : s < 4096) (w : World) :
    Calls Try.prog 152 #[.int .u64 (s : Int)] w fun e w' => e = .returned (.int .i64 ((pcN 12 s : Nat) : Int)) ∧ Drawn0 w w' := by
  have he := onesE_eq s hs
  unfold onesE at he
  obtain ⟨x1, h1⟩ : ∃ x1 : Int, IntKind.u64.wrap (Go.bits .and .u64 ((s : Int) / 2) 6148914691236517205 + Go.bits .and .u64 (s : Int) 6148914691236517205) = x1 := ⟨_, rfl⟩
  rw [h1] at he
  obtain ⟨x2, h2⟩ : ∃ x2 : Int, IntKind.u64.wrap (Go.bits .and .u64 (x1 / 4) 3689348814741910323 + Go.bits .and .u64 x1 3689348814741910323) = x2 := ⟨_, rfl⟩
  simp only [h2] at he
  obtain ⟨x3, h3⟩ : ∃ x3 : Int, Go.bits .and .u64 (IntKind.u64.wrap (x2 / 16 + x2)) 1085102592571150095 = x3 := ⟨_, rfl⟩
  simp only [h3] at he
  obtain ⟨x4, h4⟩ : ∃ x4 : Int, IntKind.u64.wrap (x3 + x3 / 256) = x4 := ⟨_, rfl⟩
  simp only [h4] at he
  obtain ⟨x5, h5⟩ : ∃ x5 : Int, IntKind.u64.wrap (x4 + x4 / 65536) = x5 := ⟨_, rfl⟩
  simp only [h5] at he
  obtain ⟨x6, h6⟩ : ∃ x6 : Int, IntKind.u64.wrap (x5 + x5 / 4294967296) = x6 := ⟨_, rfl⟩
  simp only [h6] at he
  obtain ⟨y, hy⟩ : ∃ y : Int, ((pcN 12 s : Nat) : Int) = y := ⟨_, rfl⟩
  rw [hy] at he ⊢
  clear hy
  go_enter Try.func152, Try.ntmps152
  go_wp2
  go_ret
  exact ⟨rfl, Drawn0.refl _⟩


/-! ### bits_OnesCount: function 143 -/
def bits_OnesCount.f (a0 : Int) : Option Int := if 0 ≤ a0 ∧ a0 < 4096 then some ((pcN 12 a0.toNat : Nat) : Int) else none
set_option maxHeartbeats 4000000 in
set_option maxRecDepth 100000 in
theorem bits_OnesCount.calls (a0 : Int) (r : Int) (w : World) (h : bits_OnesCount.f a0 = some r) :
    Calls Try.prog 143 #[.int .u64 a0] w fun e w' => e = .returned (.int .i64 r) ∧ Drawn0 w w' := by
  unfold bits_OnesCount.f at h
  by_cases hc : 0 ≤ a0 ∧ a0 < 4096
  case neg => rw [if_neg hc] at h; cases h
  rw [if_pos hc] at h
  obtain ⟨s, rfl⟩ : ∃ s : Nat, a0 = s := ⟨a0.toNat, by omega⟩
  have hs : s < 4096 := by omega
  have h' : ((pcN 12 s : Nat) : Int) = r := Option.some.inj h
  obtain ⟨y, hy⟩ : ∃ y : Nat, pcN 12 s = y := ⟨_, rfl⟩
  have hc64 := OnesCount64_calls s hs
  rw [hy] at h' hc64
  subst h'
  have HC := Aside0.mk hc64
  clear hy hc64 h hc
  go_enter Try.func143, Try.ntmps143
  go_wp2_with (first | ((with_reducible refine gate_callee (f := 152) rfl ?_); refine goesL_ (some 7) rfl rfl Try.func152 (by kernel_rfl) rfl #[.int .u64 (s : Int)] rfl (by (try simp only [List.map_toArray, List.map_cons, List.map_nil]); first | done | rfl) ?_; (with_reducible refine (HC.out _).mono ?_); rintro e w' ⟨rfl, ⟨q, rfl⟩⟩; refine ⟨_, rfl, ?_⟩))
  go_ret
  exact ⟨rfl, ⟨_, rfl⟩⟩


/-! ### impl_bits1: function 123 -/
def impl_bits1.f (a0 : Int) : Option (Int) := (bits_OnesCount.f a0).bind fun t1224 => (some t1224)
set_option maxHeartbeats 8000000 in
set_option maxRecDepth 100000 in
theorem impl_bits1.calls (a0 : Int) (r : Int) (w : World) (h : impl_bits1.f a0 = some r) :
 Calls Try.prog 123 #[.int .u64 a0] w fun e w' => e = .returned (.int .i64 r) ∧ Drawn0 w w' := by
 have H : ((bits_OnesCount.f a0).bind fun t1224 => (some t1224)) = some r := h
 clear h
 replace H := Option.bind_eq_some_iff.mp H
 obtain ⟨t1224, A20, H⟩ := H
 (try dsimp only at H)
 have A2 := Aside0.mk A20
 clear A20
 obtain rfl := Option.some.inj H
 go_enter Try.func123, Try.ntmps123
 go_wp2_with (first | ((with_reducible refine gate_callee (f := 143) rfl ?_); refine gl_ (some 4) rfl rfl Try.func143 (by kernel_rfl) rfl #[.int .u64 a0] rfl ?_; (with_reducible refine (bits_OnesCount.calls a0 t1224 _ A2.out).mono ?_); rintro e w' ⟨rfl, ⟨nd, rfl⟩⟩; refine ⟨_, rfl, ?_⟩))
 go_ret
 exact ⟨by first | rfl | (simp; done) | (simp [*]; done), by repeat (first | exact Drawn0.refl _ | apply Drawn0.step)⟩

/-! ### impl_LeastTakes: function 59 -/
def mostH (k : Nat) (a : Int) (l : List Int) : Nat → Option Int
  | 0 => some 0
  | s + 1 => (mostH k a l s).bind fun m => (impl_isHomely.f k a (leftR l s)).bind fun b => if b = true then ((impl_bits1.f (s : Int)).bind fun q => some (mx m q)) else some m
theorem mostH_mono (k : Nat) (a : Int) (l : List Int) : ∀ s, LeO (mostH k a l s) (mostH (k + 1) a l s)
  | 0 => LeO.refl _
  | s + 1 => LeO.bind (mostH_mono k a l s) fun _ => LeO.bind (impl_isHomely.mono _ _ _) fun _ => LeO.refl _
theorem mostH_at {k : Nat} {a : Int} {l : List Int} (N : Nat) : ∀ r, mostH k a l N = some r → ∀ s, s < N → ∃ m b, mostH k a l s = some m ∧ impl_isHomely.f k a (leftR l s) = some b ∧ (b = true → ∃ q, impl_bits1.f (s : Int) = some q ∧ mostH k a l (s + 1) = some (mx m q)) ∧ (b = false → mostH k a l (s + 1) = some m) := by
  induction N with
  | zero => intro r _ s hs; omega
  | succ N ih =>
    intro r h s hs
    have h0 := h
    rw [mostH] at h
    replace h := Option.bind_eq_some_iff.mp h
    obtain ⟨m, hm, h⟩ := h
    replace h := Option.bind_eq_some_iff.mp h
    obtain ⟨b, hb, h⟩ := h
    by_cases c : s < N
    · exact ih m hm s c
    · obtain rfl : s = N := by omega
      refine ⟨m, b, hm, hb, fun e => ?_, fun e => ?_⟩
      · rw [if_pos e] at h
        replace h := Option.bind_eq_some_iff.mp h
        obtain ⟨q, hq, h⟩ := h
        exact ⟨q, hq, by rw [h0, ← h]⟩
      · rw [if_neg (by simp [e])] at h
        rw [h0, ← h]
def impl_LeastTakes.f (k : Nat) (a0 : Int) (l0 : List Int) : Option (Int × Bool) := (impl_isTaking.f k a0 l0).bind fun t => if t = true then (if l0.length ≤ 20 then (mostH k a0 l0 (2 ^ l0.length)).bind fun m => some (wrap64 ((l0.length : Int) - m), true) else none) else some (0, false)
theorem impl_LeastTakes.mono : ∀ a0 a1 k, LeO (impl_LeastTakes.f k a0 a1) (impl_LeastTakes.f (k + 1) a0 a1) := by
  intro a0 a1 k
  unfold impl_LeastTakes.f
  exact LeO.bind (impl_isTaking.mono _ _ _) fun _ => LeO.ite (LeO.ite (LeO.bind (mostH_mono k _ _ _) fun _ => LeO.refl _) (LeO.refl _)) (LeO.refl _)
set_option maxHeartbeats 4000000 in
set_option maxRecDepth 100000 in
theorem impl_LeastTakes.calls (k : Nat) (a0_0 : Int) (A0_1 : Option Addr) (c0_1 : Nat) (l0_1 : List Int) (r1 : Int) (r2 : Bool) (w : World) (hr0_1 : Kd.C (Kd.int .i64) w A0_1 l0_1.length l0_1) (hc0_1 : l0_1.length ≤ c0_1) (h : impl_LeastTakes.f k a0_0 l0_1 = some (r1, r2)) :
    Calls Try.prog 59 #[.agg #[.int .i64 a0_0, .slice A0_1 l0_1.length c0_1]] w fun e w' => e = .returned (.tuple #[.int .i64 r1, .bool r2]) ∧ Below w.heap.size w w' := by
  have hu28 := Try.underlying26
  have HR := Aside0.mk hr0_1
  have HC := Aside0.mk hc0_1
  have HB := Aside0.mk (Below.refl w.heap.size w)
  replace h := Option.bind_eq_some_iff.mp h
  obtain ⟨t, ht, h⟩ := h
  have HT := Aside0.mk ht
  clear hr0_1 hc0_1 ht
  cases t with
  | false =>
    rw [if_neg (by simp)] at h
    simp only [Option.some.injEq, Prod.mk.injEq] at h
    obtain ⟨rfl, rfl⟩ := h
    go_enter Try.func59, Try.ntmps59
    go_wp2_with (first | ((with_reducible refine gate_dst (N := 1) rfl ?_); refine box_event ?hg (N := 1) ?hd (cs := #[.int .i64 a0_0, .slice A0_1 l0_1.length c0_1]) (t := 26) ?hr ?_; (case hd => rfl); (case hg => rfl); (case hr => first | (go_simp; done) | (go_simp; rfl)); intro gl hg w1 hbox hb; have n0_ := Aside0.mk (below_step HB.out hb); clear HB; have HB := n0_; clear n0_; have BKL := Aside0.mk hbox; clear hbox hb hg; have hcz0 : w1.cell? ⟨gl, 0, none⟩ = some (.int .i64 a0_0) := (blk_cell BKL.out 0).trans rfl; have hcz1 : w1.cell? ⟨gl, 1, none⟩ = some (.slice A0_1 l0_1.length c0_1) := (blk_cell BKL.out 1).trans rfl; have hfz0 := blk_frozen BKL.out 0; have hfz1 := blk_frozen BKL.out 1) | ((with_reducible refine gate_callee (f := 112) rfl ?_); refine goesL_ (some 10) rfl rfl Try.func112 (by kernel_rfl) rfl #[.agg #[.int .i64 a0_0, .slice A0_1 l0_1.length c0_1]] rfl (by (try simp only [List.map_toArray, List.map_cons, List.map_nil]); first | done | rfl) ?_; (with_reducible refine (gameOf_calls k a0_0 A0_1 c0_1 l0_1 _ _ (Kd.C_below HR.out HB.out) HC.out HT.out).mono ?_); rintro e w2 ⟨g, bm, rfl, hgm, hmp, hne, hgw, hmw, hb⟩; refine ⟨_, rfl, ?_⟩; have HG := Aside0.mk hgm; have HMP := Aside0.mk hmp; have HNE := Aside0.mk hne; have HGW := Aside0.mk hgw; have HMW := Aside0.mk hmw; have n0_ := Aside0.mk (below_step HB.out hb); clear HB; have HB := n0_; have n1_ := Aside0.mk (blk_below BKL.out hb); clear BKL; have BKL := n1_; clear n0_ n1_ hgm hmp hne hgw hmw hb))
    go_ret2
    exact ⟨rfl, HB.out⟩
  | true =>
    rw [if_pos rfl] at h
    by_cases hn : l0_1.length ≤ 20
    case neg => rw [if_neg hn] at h; cases h
    rw [if_pos hn] at h
    replace h := Option.bind_eq_some_iff.mp h
    obtain ⟨m, hm, h⟩ := h
    simp only [Option.some.injEq, Prod.mk.injEq] at h
    obtain ⟨rfl, rfl⟩ := h
    have HN := Lib.hid hn
    have HA := Aside0.mk (mostH_at _ _ hm)
    have HM := Aside0.mk hm
    have hp := pow20 l0_1.length hn
    have hp1 : 1 ≤ 2 ^ l0_1.length := Nat.one_le_two_pow
    obtain ⟨N, hN⟩ : ∃ N, N = 2 ^ l0_1.length := ⟨_, rfl⟩
    rw [← hN] at hp hp1
    have HNN := Lib.hid hN
    have HP := Lib.hid hp
    have hfw : IntKind.u64.wrap (((N - 1 : Nat) : Int) + 1) = (N : Int) := wrapU_of (by omega) (by omega)
    have HFW := Lib.hid hfw
    clear hn hm hp1 hN hfw hp
    go_enter Try.func59, Try.ntmps59
    go_wp2_with (first | ((with_reducible refine gate_dst (N := 1) rfl ?_); refine box_event ?hg (N := 1) ?hd (cs := #[.int .i64 a0_0, .slice A0_1 l0_1.length c0_1]) (t := 26) ?hr ?_; (case hd => rfl); (case hg => rfl); (case hr => first | (go_simp; done) | (go_simp; rfl)); intro gl hg w1 hbox hb; have n0_ := Aside0.mk (below_step HB.out hb); clear HB; have HB := n0_; clear n0_; have BKL := Aside0.mk hbox; clear hbox hb hg; have hcz0 : w1.cell? ⟨gl, 0, none⟩ = some (.int .i64 a0_0) := (blk_cell BKL.out 0).trans rfl; have hcz1 : w1.cell? ⟨gl, 1, none⟩ = some (.slice A0_1 l0_1.length c0_1) := (blk_cell BKL.out 1).trans rfl; have hfz0 := blk_frozen BKL.out 0; have hfz1 := blk_frozen BKL.out 1) | ((with_reducible refine gate_callee (f := 112) rfl ?_); refine goesL_ (some 10) rfl rfl Try.func112 (by kernel_rfl) rfl #[.agg #[.int .i64 a0_0, .slice A0_1 l0_1.length c0_1]] rfl (by (try simp only [List.map_toArray, List.map_cons, List.map_nil]); first | done | rfl) ?_; (with_reducible refine (gameOf_calls k a0_0 A0_1 c0_1 l0_1 _ _ (Kd.C_below HR.out HB.out) HC.out HT.out).mono ?_); rintro e w2 ⟨g, bm, rfl, hgm, hmp, hne, hgw, hmw, hb⟩; refine ⟨_, rfl, ?_⟩; have HG := Aside0.mk hgm; have HMP := Aside0.mk hmp; have HNE := Aside0.mk hne; have HGW := Aside0.mk hgw; have HMW := Aside0.mk hmw; have n0_ := Aside0.mk (below_step HB.out hb); clear HB; have HB := n0_; have n1_ := Aside0.mk (blk_below BKL.out hb); clear BKL; have BKL := n1_; clear n0_ n1_ hgm hmp hne hgw hmw hb) | ((with_reducible refine gate_callee (f := 113) rfl ?_); refine goesL_ (some 16) rfl rfl Try.func113 (by kernel_rfl) rfl #[.pointer (some ⟨g, 0, none⟩)] rfl (by (try simp only [List.map_toArray, List.map_cons, List.map_nil]); first | done | rfl) ?_; (with_reducible refine (full_calls a0_0 A0_1 c0_1 l0_1 HN.out g bm _ HG.out).mono ?_); rw [← HNN.out]; rintro e w3 ⟨rfl, ⟨q', rfl⟩⟩; refine ⟨_, rfl, ?_⟩))
    go_loopg [6, 18] N (fun gg v6 v18 wr => ∃ (s : Nat) (q : Int), s ≤ N ∧ N - s ≤ gg ∧ v18 = .int .u64 (s : Int) ∧ v6 = .int .i64 q ∧ Aside0 (mostH k a0_0 l0_1 s = some q) ∧ Aside0 (Game A0_1 c0_1 a0_0 l0_1 g bm wr) ∧ Aside0 (wr.heap[gl]? = some (.cells #[.int .i64 a0_0, .slice A0_1 l0_1.length c0_1] 26 (0, 0))) ∧ Aside0 (Below w.heap.size w wr))
    case atStart => exact ⟨0, 0, Nat.zero_le _, by omega, rfl, rfl, ⟨rfl⟩, ⟨blk_drewN HG.out q'⟩, ⟨blk_drewN BKL.out q'⟩, ⟨(by repeat (first | (with_reducible first | exact HB.out | apply below_alloc | apply pw_below_drewN | apply below_drew1) | exact HB.out))⟩⟩
    case round =>
      clear HG HB BKL
      obtain ⟨s, q, hs, hgg, rfl, rfl, HF, HG, BKL, HB⟩ := hrel
      by_cases hlt : s < N
      · have c1 : decide ((s : Int) < IntKind.u64.wrap (((N - 1 : Nat) : Int) + 1)) = true := decide_eq_true (by rw [HFW.out]; omega)
        obtain ⟨m', b, h1, h2, h3, h4⟩ := HA.out s (by rw [← HNN.out]; exact hlt)
        rw [HF.out] at h1
        injection h1 with h1
        subst h1
        have HH := Aside0.mk h2
        have HF3 := Aside0.mk h3
        have HF4 := Aside0.mk h4
        have HLT := Lib.hid hlt
        have HWS := Lib.hid (show IntKind.u64.wrap ((s : Int) + 1) = ((s + 1 : Nat) : Int) from wrapU_of (by omega) (by have := HP.out; omega))
        clear h2 h3 h4 hlt hs
        cases hb0 : b with
        | true =>
          subst hb0
          obtain ⟨z, hz, hz2⟩ := HF3.out rfl
          have HZ := Aside0.mk hz
          have HF2 := Aside0.mk hz2
          have hmx : (if q < z then z else q) = mx q z := rfl
          clear hz hz2 HF3 HF4
          go_wp2_with (first | ((with_reducible refine gate_callee (f := 123) rfl ?_); refine goesL_ (some 26) rfl rfl Try.func123 (by kernel_rfl) rfl #[.int .u64 (s : Int)] rfl (by (try simp only [List.map_toArray, List.map_cons, List.map_nil]); first | done | rfl) ?_; (with_reducible refine (impl_bits1.calls (s : Int) z _ HZ.out).mono ?_); rintro e w' ⟨rfl, ⟨q'', rfl⟩⟩; refine ⟨_, rfl, ?_⟩) | ((with_reducible refine gate_callee (f := 114) rfl ?_); refine goesL_ (some 23) rfl rfl Try.func114 (by kernel_rfl) rfl #[.pointer (some ⟨g, 0, none⟩), .int .u64 (s : Int)] rfl (by (try simp only [List.map_toArray, List.map_cons, List.map_nil]); first | done | rfl) ?_; (with_reducible refine (isOver_calls k a0_0 A0_1 c0_1 l0_1 HN.out s (by have := HP.out; have := HLT.out; omega) true g bm _ HG.out (Kd.C_below HR.out HB.out) HC.out HH.out).mono ?_); rintro e w4 ⟨rfl, hb⟩; refine ⟨_, rfl, ?_⟩; have n0_ := Aside0.mk (show Game A0_1 c0_1 a0_0 l0_1 g bm w4 from blk_below HG.out hb); have n1_ := Aside0.mk (below_step HB.out hb); have n2_ := Aside0.mk (blk_below BKL.out hb); clear HG HB BKL hb; have HG := n0_; have HB := n1_; have BKL := n2_; clear n0_ n1_ n2_))
          go_roundg (N - (s + 1))
          case measure => have := HLT.out; omega
          case rel => exact ⟨s + 1, mx q z, HLT.out, Nat.le_refl _, by rw [← HWS.out], by first | rfl | (rw [← hmx]), HF2, ⟨(by (with_reducible repeat (first | refine blk_drewN ?_ _ | refine blk_drew ?_)); exact HG.out)⟩, ⟨(by (with_reducible repeat (first | refine blk_drewN ?_ _ | refine blk_drew ?_ | refine blk_alloc ?_ _)); exact BKL.out)⟩, ⟨(by repeat (first | (with_reducible first | exact HB.out | apply below_alloc | apply pw_below_drewN | apply below_drew1) | exact HB.out))⟩⟩
        | false =>
          subst hb0
          have HF2 := Aside0.mk (HF4.out rfl)
          clear HF3 HF4
          go_wp2_with (first | ((with_reducible refine gate_callee (f := 114) rfl ?_); refine goesL_ (some 23) rfl rfl Try.func114 (by kernel_rfl) rfl #[.pointer (some ⟨g, 0, none⟩), .int .u64 (s : Int)] rfl (by (try simp only [List.map_toArray, List.map_cons, List.map_nil]); first | done | rfl) ?_; (with_reducible refine (isOver_calls k a0_0 A0_1 c0_1 l0_1 HN.out s (by have := HP.out; have := HLT.out; omega) false g bm _ HG.out (Kd.C_below HR.out HB.out) HC.out HH.out).mono ?_); rintro e w4 ⟨rfl, hb⟩; refine ⟨_, rfl, ?_⟩; have n0_ := Aside0.mk (show Game A0_1 c0_1 a0_0 l0_1 g bm w4 from blk_below HG.out hb); have n1_ := Aside0.mk (below_step HB.out hb); have n2_ := Aside0.mk (blk_below BKL.out hb); clear HG HB BKL hb; have HG := n0_; have HB := n1_; have BKL := n2_; clear n0_ n1_ n2_))
          go_roundg (N - (s + 1))
          case measure => have := HLT.out; omega
          case rel => exact ⟨s + 1, q, HLT.out, Nat.le_refl _, by rw [← HWS.out], rfl, HF2, HG, BKL, HB⟩
      · have c1 : decide ((s : Int) < IntKind.u64.wrap (((N - 1 : Nat) : Int) + 1)) = false := decide_eq_false (by rw [HFW.out]; omega)
        have hsN : s = N := by omega
        have hq : q = m := by
          have h1 := HF.out
          rw [hsN, HNN.out, HM.out] at h1
          exact (Option.some.inj h1).symm
        subst hq
        clear hlt hs hsN
        have hcy0 : wr.cell? ⟨gl, 1, none⟩ = some (.slice A0_1 l0_1.length c0_1) := (blk_cell BKL.out 1).trans rfl
        have hfy0 := blk_frozen BKL.out 1
        go_wp2
        go_ret2
        exact ⟨rfl, HB.out⟩


/-! ### spec_LeastTakes: function 60 -/
def spec_LeastTakes.l0 : Nat → Int → Int → Int → List Int → Option (Int × Bool)
 | 0, _, _, _, _ => none
 | k + 1, x4, x5, x1226000, x1226001 => if x5 < (shl .i64 1 (x1226001.length : Int)) then ((spec_gaLeft.f k x1226000 x1226001 x5).bind fun t1227 => ((spec_gaHome.f k x1226000 t1227).bind fun t1230 => (if t1230 = true then ((spec_l1Most.f x4 (t1227.length : Int)).bind fun t1231 => (spec_LeastTakes.l0 k t1231 (wrap64 (x5 + 1)) x1226000 x1226001)) else (spec_LeastTakes.l0 k x4 (wrap64 (x5 + 1)) x1226000 x1226001)))) else (some (wrap64 ((x1226001.length : Int) - x4), true))
def spec_LeastTakes.f (k : Nat) (a0_0 : Int) (l0_1 : List Int) : Option (Int × Bool) := (spec_gaTaking.f k a0_0 l0_1).bind fun t1226 => (if t1226 = true then (spec_LeastTakes.l0 k 0 0 a0_0 l0_1) else (some (0, false)))
theorem spec_LeastTakes.mono_l : ∀ k, (∀ y0 y1 y2 y3, LeO (spec_LeastTakes.l0 k y0 y1 y2 y3) (spec_LeastTakes.l0 (k + 1) y0 y1 y2 y3))
 | 0 => fun _ _ _ _ r h => by simp [spec_LeastTakes.l0] at h
 | k + 1 => by
  have ih0 := spec_LeastTakes.mono_l k
  ·intro y0 y1 y2 y3
   unfold spec_LeastTakes.l0
   repeat' first
   | (with_reducible exact ih0 _ _ _ _)
   | (with_reducible exact spec_gaHome.mono _ _ _)
   | (with_reducible exact spec_gaLeft.mono _ _ _ _)
   | (with_reducible exact spec_gaTaking.mono _ _ _)
   | (with_reducible exact LeO.refl _)
   | (with_reducible exact LeO.none _)
   | (with_reducible refine LeO.ite ?_ ?_)
   | (with_reducible refine LeO.bind ?_ (fun _ => ?_))
   | exact ih0 _ _ _ _
   | exact spec_gaHome.mono _ _ _
   | exact spec_gaLeft.mono _ _ _ _
   | exact spec_gaTaking.mono _ _ _
   | exact LeO.none _
   | refine LeO.ite ?_ ?_
   | refine LeO.bind ?_ (fun _ => ?_)
theorem spec_LeastTakes.mono : ∀ a0 a1 k, LeO (spec_LeastTakes.f k a0 a1) (spec_LeastTakes.f (k + 1) a0 a1) := by
 intro a0 a1 k
 have ih0 := spec_LeastTakes.mono_l k
 unfold spec_LeastTakes.f
 repeat' first
  | (with_reducible exact ih0 _ _ _ _)
  | (with_reducible exact spec_gaHome.mono _ _ _)
  | (with_reducible exact spec_gaLeft.mono _ _ _ _)
  | (with_reducible exact spec_gaTaking.mono _ _ _)
  | (with_reducible exact LeO.refl _)
  | (with_reducible exact LeO.none _)
  | (with_reducible refine LeO.ite ?_ ?_)
  | (with_reducible refine LeO.bind ?_ (fun _ => ?_))
  | exact ih0 _ _ _ _
  | exact spec_gaHome.mono _ _ _
  | exact spec_gaLeft.mono _ _ _ _
  | exact spec_gaTaking.mono _ _ _
  | exact LeO.none _
  | refine LeO.ite ?_ ?_
  | refine LeO.bind ?_ (fun _ => ?_)
set_option maxHeartbeats 8000000 in
set_option maxRecDepth 100000 in
theorem spec_LeastTakes.calls (k : Nat) (a0_0 : Int) (A0_1 : Option Addr) (c0_1 : Nat) (l0_1 : List Int) (r1 : Int) (r2 : Bool) (w : World) (hr0_1 : Kd.C (Kd.int .i64) w A0_1 l0_1.length l0_1) (hc0_1 : l0_1.length ≤ c0_1) (h : spec_LeastTakes.f k a0_0 l0_1 = some (r1, r2)) :
 Calls Try.prog 60 #[.agg #[.int .i64 a0_0, .slice A0_1 l0_1.length c0_1]] w fun e w' => e = .returned (.tuple #[.int .i64 r1, .bool r2]) ∧ Below w.heap.size w w' := by
 have hu26 := Try.underlying26
 have HR0_1 := Aside0.mk hr0_1
 have HC0_1 := Aside0.mk hc0_1
 clear hr0_1 hc0_1
 have HB := Aside0.mk (Below.refl w.heap.size w)
 have H : ((spec_gaTaking.f k a0_0 l0_1).bind fun t1226 => (if t1226 = true then (spec_LeastTakes.l0 k 0 0 a0_0 l0_1) else (some (0, false)))) = some (r1, r2) := h
 clear h
 replace H := Option.bind_eq_some_iff.mp H
 obtain ⟨t1226, A20, H⟩ := H
 (try dsimp only at H)
 have A2 := Aside0.mk A20
 clear A20
 by_cases c3 : t1226 = true
 ·subst c3
  rw [if_pos rfl] at H
  have H' := Aside0.mk H
  clear H
  go_enter Try.func60, Try.ntmps60
  go_wp2_with (first | ((with_reducible refine gate_dst (N := 1) rfl ?_); refine box_event ?hg (N := 1) ?hd (cs := #[.int .i64 a0_0, .slice A0_1 l0_1.length c0_1]) (t := 26) ?hr ?_; (case hd => rfl); (case hg => rfl); (case hr => first | (go_simp; done) | (go_simp; rfl)); intro gb1225 hg w4 hbox hb; have BK1225 := Aside0.mk (hbox); have GW1225 := Aside0.mk ((by rw [hg]; exact (below_size (Bl_ HB)) : w.heap.size ≤ gb1225)); have GE1225 := Aside0.mk ((by rw [hg]; exact (below_size (Bl_ HB)) : w.heap.size ≤ gb1225)); replace HB := Aside0.mk (below_step (Bl_ HB) hb); clear hb hbox hg; have hcz5_0 : w4.cell? ⟨gb1225, 0, none⟩ = some (.int .i64 a0_0) := (blk_cell BK1225.out 0).trans rfl; have hcz5_1 : w4.cell? ⟨gb1225, 1, none⟩ = some (.slice A0_1 l0_1.length c0_1) := (blk_cell BK1225.out 1).trans rfl; have hfz5_0 := blk_frozen BK1225.out 0; have hfz5_1 := blk_frozen BK1225.out 1) | ((with_reducible refine gate_callee (f := 116) rfl ?_); refine gl_ (some 8) rfl rfl Try.func116 (by kernel_rfl) rfl #[.agg #[.int .i64 a0_0, .slice A0_1 l0_1.length c0_1]] rfl ?_; (with_reducible refine (spec_gaTaking.calls k a0_0 _ _ l0_1 true _ ?side1 ?side2 A2.out).mono ?_); (case side1 => exact Cl_ (Kd.C_below HR0_1.out HB.out)); (case side2 => exact HC0_1.out); rintro e w6 ⟨rfl, hb⟩; refine ⟨_, rfl, ?_⟩; replace BK1225 := blkB_ BK1225 hb; replace HB := Aside0.mk (below_step (Bl_ HB) hb); (try clear hb); (try clear hb2); (try clear hk); (try clear hi)))
  go_loopg [4, 5] k (fun kq v4 v5 w' => ∃ (x4_1 : Int) (x5_1 : Int), v4 = .int .i64 x4_1 ∧ v5 = .int .i64 x5_1 ∧ Aside0 (spec_LeastTakes.l0 kq x4_1 x5_1 a0_0 l0_1 = some (r1, r2)) ∧ Aside0 (kq ≤ k) ∧ Aside0 (w'.heap[gb1225]? = some (.cells #[.int .i64 a0_0, (.slice A0_1 l0_1.length c0_1)] 26 (0, 0))) ∧ Aside0 (Below w.heap.size w w'))
  case atStart => exact ⟨(0), (0), (by first | rfl | (simp; done) | (simp [*]; done)), (by first | rfl | (simp; done) | (simp [*]; done)), H', ⟨Nat.le_refl _⟩, ⟨bl_ BK1225⟩, ⟨Bl_ HB⟩⟩
  case round =>
   clear H'
   try clear c1
   try clear p2
   try clear c3
   try clear c6
   try clear hcz5_0
   try clear hcz5_1
   try clear hfz5_0
   try clear hfz5_1
   obtain ⟨x4_1, x5_1, rfl, rfl, HA, HK1, BK1225, HB⟩ := hrel
   cases gk with
   | zero => exact absurd HA.out (by simp [spec_LeastTakes.l0])
   | succ k1 =>
    have H := HA.out
    clear HA
    simp only [spec_LeastTakes.l0] at H
    obtain ⟨ji7, hji7⟩ : ∃ j_ : Int, (shl .i64 1 (l0_1.length : Int)) = j_ := ⟨_, rfl⟩
    replace H : (if x5_1 < (ji7) then ((spec_gaLeft.f k1 a0_0 l0_1 x5_1).bind fun t1227 => ((spec_gaHome.f k1 a0_0 t1227).bind fun t1230 => (if t1230 = true then ((spec_l1Most.f x4_1 (t1227.length : Int)).bind fun t1231 => (spec_LeastTakes.l0 k1 t1231 (wrap64 (x5_1 + 1)) a0_0 l0_1)) else (spec_LeastTakes.l0 k1 x4_1 (wrap64 (x5_1 + 1)) a0_0 l0_1)))) else (some (wrap64 ((l0_1.length : Int) - x4_1), true))) = some (r1, r2) := by first | (rw [hji7] at H; exact H) | (simp only [hji7] at H ⊢; exact H)
    have hji7_ : (IntKind.i64.wrap (1 * 2 ^ min (l0_1.length : Int).toNat 64)) = ji7 := hji7
    have hji7z : (l0_1.length : Int) ≤ 64 → (IntKind.i64.wrap (1 * 2 ^ (l0_1.length : Int).toNat)) = ji7 := shl_small hji7
    have hji7p : (IntKind.i64.wrap (1 * 2 ^ min l0_1.length 64)) = ji7 := hji7_
    have hji7q : (l0_1.length : Int) ≤ 64 → (IntKind.i64.wrap (1 * 2 ^ l0_1.length)) = ji7 := hji7z
    have hji7r : (IntKind.i64.wrap (2 ^ min l0_1.length 64)) = ji7 := by have h_ := hji7p; rw [Int.one_mul] at h_; exact h_
    have hji7s : (l0_1.length : Int) ≤ 64 → (IntKind.i64.wrap (2 ^ l0_1.length)) = ji7 := fun hle_ => by have h_ := hji7q hle_; rw [Int.one_mul] at h_; exact h_
    have hji7u : (IntKind.i64.wrap (2 ^ min (l0_1.length : Int).toNat 64)) = ji7 := by have h_ := hji7_; rw [Int.one_mul] at h_; exact h_
    have hji7v : (l0_1.length : Int) ≤ 64 → (IntKind.i64.wrap (2 ^ (l0_1.length : Int).toNat)) = ji7 := fun hle_ => by have h_ := hji7z hle_; rw [Int.one_mul] at h_; exact h_
    have hji7y : (wrap64 (1 * 2 ^ min (l0_1.length : Int).toNat 64)) = ji7 := (i64_w _).symm.trans hji7_
    have hji7x : (l0_1.length : Int) ≤ 64 → (wrap64 (1 * 2 ^ (l0_1.length : Int).toNat)) = ji7 := fun h_ => (i64_w _).symm.trans (hji7z h_)
    by_cases c8 : x5_1 < (ji7)
    ·rw [if_pos c8] at H
     have c8b0 : decide (x5_1 < (ji7)) = true := decide_eq_true c8
     clear c8
     replace H := Option.bind_eq_some_iff.mp H
     obtain ⟨t1227, A90, H⟩ := H
     (try dsimp only at H)
     have A9 := Aside0.mk A90
     clear A90
     replace H := Option.bind_eq_some_iff.mp H
     obtain ⟨t1230, A100, H⟩ := H
     (try dsimp only at H)
     have A10 := Aside0.mk A100
     clear A100
     by_cases c11 : t1230 = true
     ·subst c11
      rw [if_pos rfl] at H
      replace H := Option.bind_eq_some_iff.mp H
      obtain ⟨t1231, A120, H⟩ := H
      (try dsimp only at H)
      have A12 := Aside0.mk A120
      clear A120
      have H' := Aside0.mk H
      clear H
      have hcz13_0 : wr.cell? ⟨gb1225, 0, none⟩ = some (.int .i64 a0_0) := (blk_cell BK1225.out 0).trans rfl
      have hcz13_1 : wr.cell? ⟨gb1225, 1, none⟩ = some (.slice A0_1 l0_1.length c0_1) := (blk_cell BK1225.out 1).trans rfl
      have hfz13_0 := blk_frozen BK1225.out 0
      have hfz13_1 := blk_frozen BK1225.out 1
      go_wp2_with (first | ((with_reducible refine gate_callee (f := 122) rfl ?_); refine gl_ (some 20) rfl rfl Try.func122 (by kernel_rfl) rfl #[.agg #[.int .i64 a0_0, .slice A0_1 l0_1.length c0_1], .int .i64 x5_1] rfl ?_; (with_reducible refine (spec_gaLeft.calls k1 a0_0 _ _ l0_1 x5_1 t1227 _ ?side1 ?side2 A9.out).mono ?_); (case side1 => exact Cl_ (Kd.C_below HR0_1.out HB.out)); (case side2 => exact HC0_1.out); rintro e w14 ⟨v1228, rfl, ho0, hb⟩; refine ⟨_, rfl, ?_⟩; have HO1229 := Aside0.mk (Kd.R_lower ho0 (below_size (Bl_ HB))); replace BK1225 := blkB_ BK1225 hb; replace HB := Aside0.mk (below_step (Bl_ HB) hb); (try clear hb); (try clear hb2); (try clear hk); (try clear hi); (try clear ho0); have hcz15_0 : w14.cell? ⟨gb1225, 0, none⟩ = some (.int .i64 a0_0) := (blk_cell BK1225.out 0).trans rfl; have hcz15_1 : w14.cell? ⟨gb1225, 1, none⟩ = some (.slice A0_1 l0_1.length c0_1) := (blk_cell BK1225.out 1).trans rfl; have hfz15_0 := blk_frozen BK1225.out 0; have hfz15_1 := blk_frozen BK1225.out 1; obtain ⟨Ao16, co16, eo16⟩ := Kd.R_slice HO1229.out; subst eo16) | ((with_reducible refine gate_callee (f := 121) rfl ?_); refine gl_ (some 24) rfl rfl Try.func121 (by kernel_rfl) rfl #[.int .i64 a0_0, .slice Ao16 t1227.length co16] rfl ?_; (with_reducible refine (spec_gaHome.calls k1 a0_0 _ _ t1227 true _ ?side1 ?side2 A10.out).mono ?_); (case side1 => exact Cl_ (Kd.R_reads' HO1229.out).2.2); (case side2 => exact (Kd.R_reads' HO1229.out).2.1); rintro e w17 ⟨rfl, hb⟩; refine ⟨_, rfl, ?_⟩; replace HO1229 := Aside0.mk (Kd.R_below (Rl_ HO1229.out) hb); replace BK1225 := blkB_ BK1225 hb; replace HB := Aside0.mk (below_step (Bl_ HB) hb); (try clear hb); (try clear hb2); (try clear hk); (try clear hi)) | ((with_reducible refine gate_callee (f := 124) rfl ?_); refine gl_ (some 28) rfl rfl Try.func124 (by kernel_rfl) rfl #[.int .i64 x4_1, .int .i64 (t1227.length : Int)] rfl ?_; (with_reducible refine (spec_l1Most.calls x4_1 (t1227.length : Int) t1231 _ A12.out).mono ?_); rintro e w' ⟨rfl, ⟨nd, rfl⟩⟩; refine ⟨_, rfl, ?_⟩))
      go_roundg k1
      case measure => have := HK1.out; omega
      case rel => exact ⟨(t1231), (wrap64 (x5_1 + 1)), (by first | rfl | (simp; done) | (simp [*]; done)), (by first | rfl | (simp; done) | (simp [*]; done)), H', ⟨by have := HK1.out; omega⟩, ⟨bl_ BK1225⟩, ⟨Bl_ HB⟩⟩
     replace c11 := Bool.eq_false_iff.mpr c11
     subst c11
     rw [if_neg (show ¬ (false = true) by decide)] at H
     have H' := Aside0.mk H
     clear H
     have hcz18_0 : wr.cell? ⟨gb1225, 0, none⟩ = some (.int .i64 a0_0) := (blk_cell BK1225.out 0).trans rfl
     have hcz18_1 : wr.cell? ⟨gb1225, 1, none⟩ = some (.slice A0_1 l0_1.length c0_1) := (blk_cell BK1225.out 1).trans rfl
     have hfz18_0 := blk_frozen BK1225.out 0
     have hfz18_1 := blk_frozen BK1225.out 1
     go_wp2_with (first | ((with_reducible refine gate_callee (f := 122) rfl ?_); refine gl_ (some 20) rfl rfl Try.func122 (by kernel_rfl) rfl #[.agg #[.int .i64 a0_0, .slice A0_1 l0_1.length c0_1], .int .i64 x5_1] rfl ?_; (with_reducible refine (spec_gaLeft.calls k1 a0_0 _ _ l0_1 x5_1 t1227 _ ?side1 ?side2 A9.out).mono ?_); (case side1 => exact Cl_ (Kd.C_below HR0_1.out HB.out)); (case side2 => exact HC0_1.out); rintro e w19 ⟨v1228, rfl, ho0, hb⟩; refine ⟨_, rfl, ?_⟩; have HO1229 := Aside0.mk (Kd.R_lower ho0 (below_size (Bl_ HB))); replace BK1225 := blkB_ BK1225 hb; replace HB := Aside0.mk (below_step (Bl_ HB) hb); (try clear hb); (try clear hb2); (try clear hk); (try clear hi); (try clear ho0); have hcz20_0 : w19.cell? ⟨gb1225, 0, none⟩ = some (.int .i64 a0_0) := (blk_cell BK1225.out 0).trans rfl; have hcz20_1 : w19.cell? ⟨gb1225, 1, none⟩ = some (.slice A0_1 l0_1.length c0_1) := (blk_cell BK1225.out 1).trans rfl; have hfz20_0 := blk_frozen BK1225.out 0; have hfz20_1 := blk_frozen BK1225.out 1; obtain ⟨Ao21, co21, eo21⟩ := Kd.R_slice HO1229.out; subst eo21) | ((with_reducible refine gate_callee (f := 121) rfl ?_); refine gl_ (some 24) rfl rfl Try.func121 (by kernel_rfl) rfl #[.int .i64 a0_0, .slice Ao21 t1227.length co21] rfl ?_; (with_reducible refine (spec_gaHome.calls k1 a0_0 _ _ t1227 false _ ?side1 ?side2 A10.out).mono ?_); (case side1 => exact Cl_ (Kd.R_reads' HO1229.out).2.2); (case side2 => exact (Kd.R_reads' HO1229.out).2.1); rintro e w22 ⟨rfl, hb⟩; refine ⟨_, rfl, ?_⟩; replace HO1229 := Aside0.mk (Kd.R_below (Rl_ HO1229.out) hb); replace BK1225 := blkB_ BK1225 hb; replace HB := Aside0.mk (below_step (Bl_ HB) hb); (try clear hb); (try clear hb2); (try clear hk); (try clear hi)))
     go_roundg k1
     case measure => have := HK1.out; omega
     case rel => exact ⟨(x4_1), (wrap64 (x5_1 + 1)), (by first | rfl | (simp; done) | (simp [*]; done)), (by first | rfl | (simp; done) | (simp [*]; done)), H', ⟨by have := HK1.out; omega⟩, ⟨bl_ BK1225⟩, ⟨Bl_ HB⟩⟩
    rw [if_neg c8] at H
    have c8b0 : decide (x5_1 < (ji7)) = false := decide_eq_false c8
    clear c8
    simp only [Option.some.injEq, Prod.mk.injEq] at H
    obtain ⟨rfl, rfl⟩ := H
    have hcz23_0 : wr.cell? ⟨gb1225, 0, none⟩ = some (.int .i64 a0_0) := (blk_cell BK1225.out 0).trans rfl
    have hcz23_1 : wr.cell? ⟨gb1225, 1, none⟩ = some (.slice A0_1 l0_1.length c0_1) := (blk_cell BK1225.out 1).trans rfl
    have hfz23_0 := blk_frozen BK1225.out 0
    have hfz23_1 := blk_frozen BK1225.out 1
    go_wp2
    go_ret2
    exact ⟨by first | rfl | (simp [errW_none, errW_some] <;> rfl) | (simp only [← hji7]; first | rfl | (simp [errW_none, errW_some] <;> rfl)) | (simp [*, errW_none, errW_some] <;> rfl), Bl_ HB⟩
 replace c3 := Bool.eq_false_iff.mpr c3
 subst c3
 rw [if_neg (show ¬ (false = true) by decide)] at H
 simp only [Option.some.injEq, Prod.mk.injEq] at H
 obtain ⟨rfl, rfl⟩ := H
 go_enter Try.func60, Try.ntmps60
 go_wp2_with (first | ((with_reducible refine gate_dst (N := 1) rfl ?_); refine box_event ?hg (N := 1) ?hd (cs := #[.int .i64 a0_0, .slice A0_1 l0_1.length c0_1]) (t := 26) ?hr ?_; (case hd => rfl); (case hg => rfl); (case hr => first | (go_simp; done) | (go_simp; rfl)); intro gb1225 hg w24 hbox hb; have BK1225 := Aside0.mk (hbox); have GW1225 := Aside0.mk ((by rw [hg]; exact (below_size (Bl_ HB)) : w.heap.size ≤ gb1225)); have GE1225 := Aside0.mk ((by rw [hg]; exact (below_size (Bl_ HB)) : w.heap.size ≤ gb1225)); replace HB := Aside0.mk (below_step (Bl_ HB) hb); clear hb hbox hg; have hcz25_0 : w24.cell? ⟨gb1225, 0, none⟩ = some (.int .i64 a0_0) := (blk_cell BK1225.out 0).trans rfl; have hcz25_1 : w24.cell? ⟨gb1225, 1, none⟩ = some (.slice A0_1 l0_1.length c0_1) := (blk_cell BK1225.out 1).trans rfl; have hfz25_0 := blk_frozen BK1225.out 0; have hfz25_1 := blk_frozen BK1225.out 1) | ((with_reducible refine gate_callee (f := 116) rfl ?_); refine gl_ (some 8) rfl rfl Try.func116 (by kernel_rfl) rfl #[.agg #[.int .i64 a0_0, .slice A0_1 l0_1.length c0_1]] rfl ?_; (with_reducible refine (spec_gaTaking.calls k a0_0 _ _ l0_1 false _ ?side1 ?side2 A2.out).mono ?_); (case side1 => exact Cl_ (Kd.C_below HR0_1.out HB.out)); (case side2 => exact HC0_1.out); rintro e w26 ⟨rfl, hb⟩; refine ⟨_, rfl, ?_⟩; replace BK1225 := blkB_ BK1225 hb; replace HB := Aside0.mk (below_step (Bl_ HB) hb); (try clear hb); (try clear hb2); (try clear hk); (try clear hi)))
 go_ret2
 exact ⟨by first | rfl | (simp [errW_none, errW_some] <;> rfl) | (simp [*, errW_none, errW_some] <;> rfl), Bl_ HB⟩

/-! ### impl_IsTaking: function 61 -/
def impl_IsTaking.f (k : Nat) (a0_0 : Int) (l0_1 : List Int) : Option (Bool) := (impl_isTaking.f k a0_0 l0_1).bind fun t1233 => (some t1233)
theorem impl_IsTaking.mono : ∀ a0 a1 k, LeO (impl_IsTaking.f k a0 a1) (impl_IsTaking.f (k + 1) a0 a1) := by
 intro a0 a1 k
 unfold impl_IsTaking.f
 repeat' first
  | (with_reducible exact impl_isTaking.mono _ _ _)
  | (with_reducible exact LeO.refl _)
  | (with_reducible exact LeO.none _)
  | (with_reducible refine LeO.ite ?_ ?_)
  | (with_reducible refine LeO.bind ?_ (fun _ => ?_))
  | exact impl_isTaking.mono _ _ _
  | exact LeO.none _
  | refine LeO.ite ?_ ?_
  | refine LeO.bind ?_ (fun _ => ?_)
set_option maxHeartbeats 8000000 in
set_option maxRecDepth 100000 in
theorem impl_IsTaking.calls (k : Nat) (a0_0 : Int) (A0_1 : Option Addr) (c0_1 : Nat) (l0_1 : List Int) (r : Bool) (w : World) (hr0_1 : Kd.C (Kd.int .i64) w A0_1 l0_1.length l0_1) (hc0_1 : l0_1.length ≤ c0_1) (h : impl_IsTaking.f k a0_0 l0_1 = some r) :
 Calls Try.prog 61 #[.agg #[.int .i64 a0_0, .slice A0_1 l0_1.length c0_1]] w fun e w' => e = .returned (.bool r) ∧ Below w.heap.size w w' := by
 have hu26 := Try.underlying26
 have HR0_1 := Aside0.mk hr0_1
 have HC0_1 := Aside0.mk hc0_1
 clear hr0_1 hc0_1
 have HB := Aside0.mk (Below.refl w.heap.size w)
 have H : ((impl_isTaking.f k a0_0 l0_1).bind fun t1233 => (some t1233)) = some r := h
 clear h
 replace H := Option.bind_eq_some_iff.mp H
 obtain ⟨t1233, A20, H⟩ := H
 (try dsimp only at H)
 have A2 := Aside0.mk A20
 clear A20
 obtain rfl := Option.some.inj H
 go_enter Try.func61, Try.ntmps61
 go_wp2_with (first | ((with_reducible refine gate_dst (N := 1) rfl ?_); refine box_event ?hg (N := 1) ?hd (cs := #[.int .i64 a0_0, .slice A0_1 l0_1.length c0_1]) (t := 26) ?hr ?_; (case hd => rfl); (case hg => rfl); (case hr => first | (go_simp; done) | (go_simp; rfl)); intro gb1232 hg w3 hbox hb; have BK1232 := Aside0.mk (hbox); have GW1232 := Aside0.mk ((by rw [hg]; exact (below_size (Bl_ HB)) : w.heap.size ≤ gb1232)); have GE1232 := Aside0.mk ((by rw [hg]; exact (below_size (Bl_ HB)) : w.heap.size ≤ gb1232)); replace HB := Aside0.mk (below_step (Bl_ HB) hb); clear hb hbox hg; have hcz4_0 : w3.cell? ⟨gb1232, 0, none⟩ = some (.int .i64 a0_0) := (blk_cell BK1232.out 0).trans rfl; have hcz4_1 : w3.cell? ⟨gb1232, 1, none⟩ = some (.slice A0_1 l0_1.length c0_1) := (blk_cell BK1232.out 1).trans rfl; have hfz4_0 := blk_frozen BK1232.out 0; have hfz4_1 := blk_frozen BK1232.out 1) | ((with_reducible refine gate_callee (f := 125) rfl ?_); refine gl_ (some 4) rfl rfl Try.func125 (by kernel_rfl) rfl #[.agg #[.int .i64 a0_0, .slice A0_1 l0_1.length c0_1]] rfl ?_; (with_reducible refine (impl_isTaking.calls k a0_0 _ _ l0_1 t1233 _ ?side1 ?side2 A2.out).mono ?_); (case side1 => exact Cl_ (Kd.C_below HR0_1.out HB.out)); (case side2 => exact HC0_1.out); rintro e w5 ⟨rfl, hb⟩; refine ⟨_, rfl, ?_⟩; replace BK1232 := blkB_ BK1232 hb; replace HB := Aside0.mk (below_step (Bl_ HB) hb); (try clear hb); (try clear hb2); (try clear hk); (try clear hi)))
 go_ret
 exact ⟨by first | rfl | (simp [errW_none, errW_some] <;> rfl) | (simp [*, errW_none, errW_some] <;> rfl), Bl_ HB⟩

/-! ### spec_IsTaking: function 62 -/
def spec_IsTaking.f (k : Nat) (a0_0 : Int) (l0_1 : List Int) : Option (Bool) := (spec_gaTaking.f k a0_0 l0_1).bind fun t1235 => (some t1235)
theorem spec_IsTaking.mono : ∀ a0 a1 k, LeO (spec_IsTaking.f k a0 a1) (spec_IsTaking.f (k + 1) a0 a1) := by
 intro a0 a1 k
 unfold spec_IsTaking.f
 repeat' first
  | (with_reducible exact spec_gaTaking.mono _ _ _)
  | (with_reducible exact LeO.refl _)
  | (with_reducible exact LeO.none _)
  | (with_reducible refine LeO.ite ?_ ?_)
  | (with_reducible refine LeO.bind ?_ (fun _ => ?_))
  | exact spec_gaTaking.mono _ _ _
  | exact LeO.none _
  | refine LeO.ite ?_ ?_
  | refine LeO.bind ?_ (fun _ => ?_)
set_option maxHeartbeats 8000000 in
set_option maxRecDepth 100000 in
theorem spec_IsTaking.calls (k : Nat) (a0_0 : Int) (A0_1 : Option Addr) (c0_1 : Nat) (l0_1 : List Int) (r : Bool) (w : World) (hr0_1 : Kd.C (Kd.int .i64) w A0_1 l0_1.length l0_1) (hc0_1 : l0_1.length ≤ c0_1) (h : spec_IsTaking.f k a0_0 l0_1 = some r) :
 Calls Try.prog 62 #[.agg #[.int .i64 a0_0, .slice A0_1 l0_1.length c0_1]] w fun e w' => e = .returned (.bool r) ∧ Below w.heap.size w w' := by
 have hu26 := Try.underlying26
 have HR0_1 := Aside0.mk hr0_1
 have HC0_1 := Aside0.mk hc0_1
 clear hr0_1 hc0_1
 have HB := Aside0.mk (Below.refl w.heap.size w)
 have H : ((spec_gaTaking.f k a0_0 l0_1).bind fun t1235 => (some t1235)) = some r := h
 clear h
 replace H := Option.bind_eq_some_iff.mp H
 obtain ⟨t1235, A20, H⟩ := H
 (try dsimp only at H)
 have A2 := Aside0.mk A20
 clear A20
 obtain rfl := Option.some.inj H
 go_enter Try.func62, Try.ntmps62
 go_wp2_with (first | ((with_reducible refine gate_dst (N := 1) rfl ?_); refine box_event ?hg (N := 1) ?hd (cs := #[.int .i64 a0_0, .slice A0_1 l0_1.length c0_1]) (t := 26) ?hr ?_; (case hd => rfl); (case hg => rfl); (case hr => first | (go_simp; done) | (go_simp; rfl)); intro gb1234 hg w3 hbox hb; have BK1234 := Aside0.mk (hbox); have GW1234 := Aside0.mk ((by rw [hg]; exact (below_size (Bl_ HB)) : w.heap.size ≤ gb1234)); have GE1234 := Aside0.mk ((by rw [hg]; exact (below_size (Bl_ HB)) : w.heap.size ≤ gb1234)); replace HB := Aside0.mk (below_step (Bl_ HB) hb); clear hb hbox hg; have hcz4_0 : w3.cell? ⟨gb1234, 0, none⟩ = some (.int .i64 a0_0) := (blk_cell BK1234.out 0).trans rfl; have hcz4_1 : w3.cell? ⟨gb1234, 1, none⟩ = some (.slice A0_1 l0_1.length c0_1) := (blk_cell BK1234.out 1).trans rfl; have hfz4_0 := blk_frozen BK1234.out 0; have hfz4_1 := blk_frozen BK1234.out 1) | ((with_reducible refine gate_callee (f := 116) rfl ?_); refine gl_ (some 4) rfl rfl Try.func116 (by kernel_rfl) rfl #[.agg #[.int .i64 a0_0, .slice A0_1 l0_1.length c0_1]] rfl ?_; (with_reducible refine (spec_gaTaking.calls k a0_0 _ _ l0_1 t1235 _ ?side1 ?side2 A2.out).mono ?_); (case side1 => exact Cl_ (Kd.C_below HR0_1.out HB.out)); (case side2 => exact HC0_1.out); rintro e w5 ⟨rfl, hb⟩; refine ⟨_, rfl, ?_⟩; replace BK1234 := blkB_ BK1234 hb; replace HB := Aside0.mk (below_step (Bl_ HB) hb); (try clear hb); (try clear hb2); (try clear hk); (try clear hi)))
 go_ret
 exact ⟨by first | rfl | (simp [errW_none, errW_some] <;> rfl) | (simp [*, errW_none, errW_some] <;> rfl), Bl_ HB⟩

/-! ### impl_PlayTakes: function 63 -/
theorem skip_step {P : Program} {ops : Array Oper} {o : Oper} {a : Act} {Q : Exit → Act → World → Prop} {Kc : Act → World → Prop} {W w1 : World} (hw : Region.wanted o (yielded ops a.tmps) = true) (hN : o.dst = none) (hrun : (execOp a.eval o).run P W = .ok .skip w1) (h : Kc a w1) : if Region.wanted o (yielded ops a.tmps) = true then Oper.wp P o a W Kc Q else Kc (a.put o.dst undef) W := by
  rw [if_pos hw]
  unfold Oper.wp
  rw [hrun]
  show Kc (a.put o.dst undef) w1
  rw [hN]
  exact h
theorem isTaking_len {k : Nat} {a : Int} {l : List Int} (h : impl_isTaking.f k a l = some true) : l.length ≤ 12 := by
  unfold impl_isTaking.f at h
  replace h := Option.bind_eq_some_iff.mp h
  obtain ⟨t, _, h⟩ := h
  by_cases h1 : t = true
  · rw [if_pos h1] at h
    by_cases h2 : (l.length : Int) ≤ 12
    · omega
    · rw [if_neg h2] at h; cases h
  · rw [if_neg h1] at h; cases h
def playGo (k : Nat) (a : Int) (l : List Int) : List Int → Nat → Option (Option Nat)
  | [], s => some (some s)
  | t :: ts, s => if inB t 0 ((l.length : Int) - 1) = true then (if s / 2 ^ t.toNat % 2 = 0 then some none else (impl_isHomely.f k a (leftR l s)).bind fun b => if b = true then some none else playGo k a l ts (s - 2 ^ t.toNat)) else some none
theorem playGo_mono (k : Nat) (a : Int) (l : List Int) : ∀ ts s, LeO (playGo k a l ts s) (playGo (k + 1) a l ts s)
  | [], _ => LeO.refl _
  | t :: ts, s => LeO.ite (LeO.ite (LeO.refl _) (LeO.bind (impl_isHomely.mono _ _ _) fun _ => LeO.ite (LeO.refl _) (playGo_mono k a l ts _))) (LeO.refl _)
def playEnd (a : Int) (l : List Int) : Option Nat → Int × List Int × Bool
  | some s => (a, leftR l s, true)
  | none => (0, [], false)
def impl_PlayTakes.f (k : Nat) (a : Int) (l0 : List Int) (l1 : List Int) : Option (Int × List Int × Bool) := (impl_isTaking.f k a l0).bind fun t => if t = true then ((playGo k a l0 l1 (2 ^ l0.length - 1)).bind fun o => some (playEnd a l0 o)) else some (0, [], false)
theorem impl_PlayTakes.mono : ∀ a0 a1 a2 k, LeO (impl_PlayTakes.f k a0 a1 a2) (impl_PlayTakes.f (k + 1) a0 a1 a2) := by
  intro a0 a1 a2 k
  unfold impl_PlayTakes.f
  exact LeO.bind (impl_isTaking.mono _ _ _) fun _ => LeO.ite (LeO.bind (playGo_mono k _ _ _ _) fun _ => LeO.refl _) (LeO.refl _)
set_option maxHeartbeats 8000000 in
set_option maxRecDepth 100000 in
theorem impl_PlayTakes.calls (k : Nat) (a : Int) (A0 : Option Addr) (c0 : Nat) (l0 : List Int) (A1 : Option Addr) (c1 : Nat) (l1 : List Int) (r1 : Int) (r2 : List Int) (r3 : Bool) (w : World) (hr0 : Kd.C (Kd.int .i64) w A0 l0.length l0) (hc0 : l0.length ≤ c0) (hr1 : Kd.C (Kd.int .i64) w A1 l1.length l1) (hc1 : l1.length ≤ c1) (h : impl_PlayTakes.f k a l0 l1 = some (r1, r2, r3)) :
    Calls Try.prog 63 #[.agg #[.int .i64 a, .slice A0 l0.length c0], .slice A1 l1.length c1] w fun e w' => ∃ v1_ : Value, e = .returned (.tuple #[.agg #[.int .i64 r1, v1_], .bool r3]) ∧ Kd.R (Kd.int .i64) 3 w' w.heap.size (fun _ => True) v1_ r2 ∧ Below w.heap.size w w' := by
  have hu28 := Try.underlying26
  have HR := Aside0.mk hr0
  have HC := Aside0.mk hc0
  have HR1 := Aside0.mk hr1
  have HC1 := Aside0.mk hc1
  have HB := Aside0.mk (Below.refl w.heap.size w)
  have HM1 := Lib.hid (Kd.C_max hr1)
  replace h := Option.bind_eq_some_iff.mp h
  obtain ⟨t, ht, h⟩ := h
  have HT := Aside0.mk ht
  clear hr0 hc0 hr1 hc1
  cases t with
  | false =>
    rw [if_neg (by simp)] at h
    simp only [Option.some.injEq, Prod.mk.injEq] at h
    obtain ⟨rfl, rfl, rfl⟩ := h
    clear ht
    go_enter Try.func63, Try.ntmps63
    go_wp2_with (first | ((with_reducible refine gate_dst (N := 2) rfl ?_); refine box_event ?hg (N := 2) ?hd (cs := #[.int .i64 a, .slice A0 l0.length c0]) (t := 26) ?hr ?_; (case hd => rfl); (case hg => rfl); (case hr => first | (go_simp; done) | (go_simp; rfl)); intro gl hg w1 hbox hb; have n0_ := Aside0.mk (below_step HB.out hb); clear HB; have HB := n0_; clear n0_; have BKL := Aside0.mk hbox; clear hbox hb hg) | ((with_reducible refine gate_dst (N := 4) rfl ?_); refine box_event ?hg (N := 4) ?hd (cs := #[.int .i64 0, .slice none 0 0]) (t := 26) ?hr ?_; (case hd => rfl); (case hg => rfl); (case hr => first | (go_simp; done) | (go_simp; rfl)); intro gr hg w2 hbox hb; have GR := Aside0.mk ((by rw [hg]; exact below_size HB.out) : w.heap.size ≤ gr); have NLR := Aside0.mk ((by rw [hg]; exact Nat.ne_of_lt (blk_lt BKL.out)) : gl ≠ gr); have n0_ := Aside0.mk (below_step HB.out hb); have n1_ := Aside0.mk (blk_below BKL.out hb); clear HB BKL; have HB := n0_; have BKL := n1_; clear n0_ n1_; have BKR := Aside0.mk hbox; clear hbox hb hg; have hcz0 : w2.cell? ⟨gl, 0, none⟩ = some (.int .i64 a) := (blk_cell BKL.out 0).trans rfl; have hcz1 : w2.cell? ⟨gl, 1, none⟩ = some (.slice A0 l0.length c0) := (blk_cell BKL.out 1).trans rfl; have hfz0 := blk_frozen BKL.out 0; have hfz1 := blk_frozen BKL.out 1) | ((with_reducible refine gate_callee (f := 112) rfl ?_); refine goesL_ (some 13) rfl rfl Try.func112 (by kernel_rfl) rfl #[.agg #[.int .i64 a, .slice A0 l0.length c0]] rfl (by (try simp only [List.map_toArray, List.map_cons, List.map_nil]); first | done | rfl) ?_; (with_reducible refine (gameOf_calls k a A0 c0 l0 _ _ (Kd.C_below HR.out HB.out) HC.out HT.out).mono ?_); rintro e w3 ⟨g, bm, rfl, hgm, hmp, hne, hgw, hmw, hb⟩; refine ⟨_, rfl, ?_⟩; have HG := Aside0.mk hgm; have n0_ := Aside0.mk (below_step HB.out hb); have n1_ := Aside0.mk (blk_below BKL.out hb); have n2_ := Aside0.mk (blk_below BKR.out hb); clear HB BKL BKR; have HB := n0_; have BKL := n1_; have BKR := n2_; clear n0_ n1_ n2_ hgm hmp hne hgw hmw hb; have hcr0 : w3.cell? ⟨gr, 0, none⟩ = some (.int .i64 0) := (blk_cell BKR.out 0).trans rfl; have hcr1 : w3.cell? ⟨gr, 1, none⟩ = some (.slice none 0 0) := (blk_cell BKR.out 1).trans rfl; have hfr0 := blk_frozen BKR.out 0; have hfr1 := blk_frozen BKR.out 1))
    refine bodyPost_ret (results_ct rfl _ _ gr 26 #[.int .i64 0, .slice none 0 0] (0, 0) _ rfl (by (with_reducible repeat (first | refine blk_drewN ?_ _ | refine blk_drew ?_ | refine blk_alloc ?_ _)); refine blk_put (cs := #[.int .i64 0, .slice none 0 0]) ?_ 1 _ rfl; (with_reducible repeat (first | refine blk_drewN ?_ _ | refine blk_drew ?_ | refine blk_alloc ?_ _)); refine blk_put (cs := #[.int .i64 0, .slice none 0 0]) ?_ 0 _ rfl; (with_reducible repeat (first | refine blk_drewN ?_ _ | refine blk_drew ?_ | refine blk_alloc ?_ _)); exact BKR.out) Try.underlying26 rfl (by kernel_rfl)) rfl ?_
    exact ⟨_, rfl, Kd.R_nil _ _ _ _ _, by repeat (first | (with_reducible first | exact HB.out | apply below_alloc | apply pw_below_drewN | apply below_drew1 | refine below_set ?_ GR.out) | exact HB.out)⟩
  | true =>
    rw [if_pos rfl] at h
    have hn12 := isTaking_len ht
    replace h := Option.bind_eq_some_iff.mp h
    obtain ⟨o, ho, h⟩ := h
    have HO := Aside0.mk (Option.some.inj h)
    have HP := Aside0.mk ho
    have HN12 := Lib.hid hn12
    have HN20 := Lib.hid (show l0.length ≤ 20 by omega)
    obtain ⟨s0, hs0⟩ : ∃ s0, s0 = 2 ^ l0.length - 1 := ⟨_, rfl⟩
    have HS0 := Lib.hid hs0
    clear h ho ht hn12 hs0
    go_enter Try.func63, Try.ntmps63
    go_wp2_with (first | ((with_reducible refine gate_dst (N := 2) rfl ?_); refine box_event ?hg (N := 2) ?hd (cs := #[.int .i64 a, .slice A0 l0.length c0]) (t := 26) ?hr ?_; (case hd => rfl); (case hg => rfl); (case hr => first | (go_simp; done) | (go_simp; rfl)); intro gl hg w1 hbox hb; have n0_ := Aside0.mk (below_step HB.out hb); clear HB; have HB := n0_; clear n0_; have BKL := Aside0.mk hbox; clear hbox hb hg) | ((with_reducible refine gate_dst (N := 4) rfl ?_); refine box_event ?hg (N := 4) ?hd (cs := #[.int .i64 0, .slice none 0 0]) (t := 26) ?hr ?_; (case hd => rfl); (case hg => rfl); (case hr => first | (go_simp; done) | (go_simp; rfl)); intro gr hg w2 hbox hb; have GR := Aside0.mk ((by rw [hg]; exact below_size HB.out) : w.heap.size ≤ gr); have NLR := Aside0.mk ((by rw [hg]; exact Nat.ne_of_lt (blk_lt BKL.out)) : gl ≠ gr); have n0_ := Aside0.mk (below_step HB.out hb); have n1_ := Aside0.mk (blk_below BKL.out hb); clear HB BKL; have HB := n0_; have BKL := n1_; clear n0_ n1_; have BKR := Aside0.mk hbox; clear hbox hb hg; have hcz0 : w2.cell? ⟨gl, 0, none⟩ = some (.int .i64 a) := (blk_cell BKL.out 0).trans rfl; have hcz1 : w2.cell? ⟨gl, 1, none⟩ = some (.slice A0 l0.length c0) := (blk_cell BKL.out 1).trans rfl; have hfz0 := blk_frozen BKL.out 0; have hfz1 := blk_frozen BKL.out 1) | ((with_reducible refine gate_callee (f := 112) rfl ?_); refine goesL_ (some 13) rfl rfl Try.func112 (by kernel_rfl) rfl #[.agg #[.int .i64 a, .slice A0 l0.length c0]] rfl (by (try simp only [List.map_toArray, List.map_cons, List.map_nil]); first | done | rfl) ?_; (with_reducible refine (gameOf_calls k a A0 c0 l0 _ _ (Kd.C_below HR.out HB.out) HC.out HT.out).mono ?_); rintro e w3 ⟨g, bm, rfl, hgm, hmp, hne, hgw, hmw, hb⟩; refine ⟨_, rfl, ?_⟩; have HG := Aside0.mk hgm; have n0_ := Aside0.mk (below_step HB.out hb); have n1_ := Aside0.mk (blk_below BKL.out hb); have n2_ := Aside0.mk (blk_below BKR.out hb); clear HB BKL BKR; have HB := n0_; have BKL := n1_; have BKR := n2_; clear n0_ n1_ n2_ hgm hmp hne hgw hmw hb; have hcr0 : w3.cell? ⟨gr, 0, none⟩ = some (.int .i64 0) := (blk_cell BKR.out 0).trans rfl; have hcr1 : w3.cell? ⟨gr, 1, none⟩ = some (.slice none 0 0) := (blk_cell BKR.out 1).trans rfl; have hfr0 := blk_frozen BKR.out 0; have hfr1 := blk_frozen BKR.out 1) | ((with_reducible refine gate_callee (f := 113) rfl ?_); refine goesL_ (some 20) rfl rfl Try.func113 (by kernel_rfl) rfl #[.pointer (some ⟨g, 0, none⟩)] rfl (by (try simp only [List.map_toArray, List.map_cons, List.map_nil]); first | done | rfl) ?_; (with_reducible refine (full_calls a A0 c0 l0 HN20.out g bm _ HG.out).mono ?_); rintro e w4 ⟨rfl, ⟨q', rfl⟩⟩; refine ⟨_, rfl, ?_⟩))
    go_loopg [8, 23] l1.length (fun gg v8 v23 wr => ∃ (i s : Nat), i ≤ l1.length ∧ l1.length - i ≤ gg ∧ v23 = .int .i64 (i : Int) ∧ v8 = .int .u64 (s : Int) ∧ Aside0 (playGo k a l0 (l1.drop i) s = some o) ∧ Aside0 (s < 2 ^ l0.length) ∧ Aside0 (Game A0 c0 a l0 g bm wr) ∧ Aside0 (wr.heap[gl]? = some (.cells #[.int .i64 a, .slice A0 l0.length c0] 26 (0, 0))) ∧ Aside0 (wr.heap[gr]? = some (.cells #[.int .i64 0, .slice none 0 0] 26 (0, 0))) ∧ Aside0 (Below w.heap.size w wr))
    case atStart => exact ⟨0, 2 ^ l0.length - 1, Nat.zero_le _, by omega, rfl, rfl, ⟨by rw [List.drop_zero, ← HS0.out]; rw [HS0.out]; exact HP.out⟩, ⟨by have : 1 ≤ 2 ^ l0.length := Nat.one_le_two_pow; omega⟩, ⟨blk_drewN HG.out q'⟩, ⟨blk_drewN BKL.out q'⟩, ⟨blk_drewN BKR.out q'⟩, ⟨(by repeat (first | (with_reducible first | exact HB.out | apply below_alloc | apply pw_below_drewN | apply below_drew1) | exact HB.out))⟩⟩
    case round =>
      clear HG HB BKL BKR HP
      obtain ⟨i, s, hi, hgg, rfl, rfl, HP, HSL, HG, BKL, BKR, HB⟩ := hrel
      have HSM := Lib.hid (show s < 4096 from Nat.lt_of_lt_of_le HSL.out (Nat.pow_le_pow_right (n := 2) (by omega) HN12.out))
      have hcl1 : wr.cell? ⟨gl, 1, none⟩ = some (.slice A0 l0.length c0) := (blk_cell BKL.out 1).trans rfl
      have hcr0 : wr.cell? ⟨gr, 0, none⟩ = some (.int .i64 0) := (blk_cell BKR.out 0).trans rfl
      have hcr1 : wr.cell? ⟨gr, 1, none⟩ = some (.slice none 0 0) := (blk_cell BKR.out 1).trans rfl
      have hfr0 := blk_frozen BKR.out 0
      have hfr1 := blk_frozen BKR.out 1
      by_cases hlt : i < l1.length
      · have d1 : decide ((i : Int) < (l1.length : Int)) = true := decide_eq_true (by omega)
        have p1 : 0 ≤ ((i : Nat) : Int) := by omega
        have q1 : ((i : Nat) : Int) < (l1.length : Int) := by omega
        obtain ⟨ad1, e1, hx1_0⟩ := Kd.at_int HR1.out (i : Int) p1 q1
        cases e1
        obtain ⟨y, hy⟩ : ∃ y, l1[i] = y := ⟨_, rfl⟩
        have hrd : rd l1 (i : Int) = y := by rw [← hy]; unfold rd; simp [hlt]
        rw [hrd, show ((i : Int)).toNat = i from rfl] at hx1_0
        replace hx1_0 := (HB.out.cell (World.block_lt_of_cell? w _ hx1_0)).trans hx1_0
        have hp := HP.out
        rw [List.drop_eq_getElem_cons hlt, hy, playGo] at hp
        have HI := Lib.hid hlt
        have HWI := Lib.hid (show wrap64 ((i : Int) + 1) = ((i + 1 : Nat) : Int) by have := HM1.out; unfold wrap64; omega)
        have ew : wrap64 ((l0.length : Int) - 1) = (l0.length : Int) - 1 := by have := HN12.out; unfold wrap64; omega
        have hbt : impl_between.f y 0 ((l0.length : Int) - 1) = some (inB y 0 ((l0.length : Int) - 1)) := by
          unfold impl_between.f inB
          split
          · rename_i h; simp [h]
          · rename_i h; simp; omega
        have HBT := Aside0.mk hbt
        replace p1 := eq_true p1
        replace q1 := eq_true q1
        clear hrd hy hlt HP hi hbt
        cases hin : inB y 0 ((l0.length : Int) - 1) with
        | false =>
          rw [hin] at HBT hp
          rw [if_neg (by simp)] at hp
          injection hp with hp
          subst hp
          have hr_ := HO.out
          simp only [playEnd, Prod.mk.injEq] at hr_
          obtain ⟨rfl, rfl, rfl⟩ := hr_
          clear hin
          go_wp2_with (first | ((with_reducible refine (impl_between.calls y 0 ((l0.length : Int) - 1) false _ HBT.out).mono ?_); rintro e w' ⟨rfl, ⟨q2, rfl⟩⟩))
          refine bodyPost_ret (results_ct rfl _ _ gr 26 #[.int .i64 0, .slice none 0 0] (0, 0) _ rfl (by (with_reducible repeat (first | refine blk_drewN ?_ _ | refine blk_drew ?_ | refine blk_alloc ?_ _)); refine blk_put (cs := #[.int .i64 0, .slice none 0 0]) ?_ 1 _ rfl; (with_reducible repeat (first | refine blk_drewN ?_ _ | refine blk_drew ?_ | refine blk_alloc ?_ _)); refine blk_put (cs := #[.int .i64 0, .slice none 0 0]) ?_ 0 _ rfl; (with_reducible repeat (first | refine blk_drewN ?_ _ | refine blk_drew ?_ | refine blk_alloc ?_ _)); exact BKR.out) Try.underlying26 rfl (by kernel_rfl)) rfl ?_
          exact ⟨_, rfl, Kd.R_nil _ _ _ _ _, by repeat (first | (with_reducible first | exact HB.out | apply below_alloc | apply pw_below_drewN | apply below_drew1 | refine below_set ?_ GR.out) | exact HB.out)⟩
        | true =>
          rw [hin] at HBT hp
          rw [if_pos rfl] at hp
          have hsm : s < 4611686018427387904 := by have h1 := HSM.out; omega
          have hy0 : 0 ≤ y ∧ y ≤ (l0.length : Int) - 1 := by unfold inB at hin; simpa using hin
          obtain ⟨t, rfl⟩ : ∃ t : Nat, y = t := ⟨y.toNat, by omega⟩
          have HTL := Lib.hid (show t < 12 by have := HN12.out; clear ew; omega)
          rw [show ((t : Int)).toNat = t from rfl] at hp
          have e23 : ((s : Int) / 2 ^ min t 64) = (s : Int) / 2 ^ t := by rw [Nat.min_eq_left (by have := HTL.out; clear ew; omega)]
          obtain ⟨x, hx⟩ : ∃ x : Int, x = ((s / 2 ^ t % 2 : Nat) : Int) := ⟨_, rfl⟩
          have e24 : Go.bits .and .u64 ((s : Int) / 2 ^ t) 1 = x := by
            have h1 := and_oneU (s / 2 ^ t) (Nat.lt_of_le_of_lt (Nat.div_le_self _ _) hsm)
            have h2 := shr_nat s t (by have := HTL.out; clear ew; omega)
            rw [e23] at h2
            rw [h2, h1, hx]
          by_cases hz : s / 2 ^ t % 2 = 0
          · rw [if_pos hz] at hp
            injection hp with hp
            subst hp
            have hr_ := HO.out
            simp only [playEnd, Prod.mk.injEq] at hr_
            obtain ⟨rfl, rfl, rfl⟩ := hr_
            have d2 : (x == 0) = true := by rw [hx, hz]; rfl
            clear hin hsm hy0 hz hx
            go_wp2_with (first | ((with_reducible refine (impl_between.calls (t : Int) 0 ((l0.length : Int) - 1) true _ HBT.out).mono ?_); rintro e w' ⟨rfl, ⟨q2, rfl⟩⟩))
            refine bodyPost_ret (results_ct rfl _ _ gr 26 #[.int .i64 0, .slice none 0 0] (0, 0) _ rfl (by (with_reducible repeat (first | refine blk_drewN ?_ _ | refine blk_drew ?_ | refine blk_alloc ?_ _)); refine blk_put (cs := #[.int .i64 0, .slice none 0 0]) ?_ 1 _ rfl; (with_reducible repeat (first | refine blk_drewN ?_ _ | refine blk_drew ?_ | refine blk_alloc ?_ _)); refine blk_put (cs := #[.int .i64 0, .slice none 0 0]) ?_ 0 _ rfl; (with_reducible repeat (first | refine blk_drewN ?_ _ | refine blk_drew ?_ | refine blk_alloc ?_ _)); exact BKR.out) Try.underlying26 rfl (by kernel_rfl)) rfl ?_
            exact ⟨_, rfl, Kd.R_nil _ _ _ _ _, by repeat (first | (with_reducible first | exact HB.out | apply below_alloc | apply pw_below_drewN | apply below_drew1 | refine below_set ?_ GR.out) | exact HB.out)⟩
          · rw [if_neg hz] at hp
            replace hp := Option.bind_eq_some_iff.mp hp
            obtain ⟨b, hb, hp⟩ := hp
            have HH := Aside0.mk hb
            have d2 : (x == 0) = false := by
              have hxne : x ≠ 0 := by
                generalize s / 2 ^ t % 2 = q at hx hz
                omega
              simpa using hxne
            have ec := clrE_eq s t HSM.out HTL.out hz
            rw [← show min t 64 = t from Nat.min_eq_left (by have := HTL.out; clear ew; omega)] at ec
            rw [show s - 2 ^ min t 64 = s - 2 ^ t by rw [Nat.min_eq_left (by have := HTL.out; clear ew; omega)]] at ec
            obtain ⟨s2, hs2⟩ : ∃ s2, s2 = s - 2 ^ t := ⟨_, rfl⟩
            rw [← hs2] at ec hp
            have HS2 := Lib.hid hs2
            clear hin hsm hy0 hz hx hb hs2
            cases hb0 : b with
            | true =>
              subst hb0
              rw [if_pos rfl] at hp
              injection hp with hp
              subst hp
              have hr_ := HO.out
              simp only [playEnd, Prod.mk.injEq] at hr_
              obtain ⟨rfl, rfl, rfl⟩ := hr_
              go_wp2_with (first | ((with_reducible refine (impl_between.calls (t : Int) 0 ((l0.length : Int) - 1) true _ HBT.out).mono ?_); rintro e w' ⟨rfl, ⟨q2, rfl⟩⟩) | ((with_reducible refine (isOver_calls k a A0 c0 l0 HN20.out s (by have := HSM.out; omega) true g bm _ ?sg ?sr HC.out HH.out).mono ?_); (case sg => exact (by (with_reducible repeat (first | refine blk_drewN ?_ _ | refine blk_drew ?_)); exact HG.out)); (case sr => exact Kd.C_below HR.out (by repeat (first | exact HB.out | apply pw_below_drewN))); rintro e w5 ⟨rfl, hb⟩; have n0_ := Aside0.mk (show Game A0 c0 a l0 g bm w5 from blk_below (by (with_reducible repeat (first | refine blk_drewN ?_ _ | refine blk_drew ?_)); exact HG.out) hb); have n1_ := Aside0.mk (blk_below (by (with_reducible repeat (first | refine blk_drewN ?_ _ | refine blk_drew ?_ | refine blk_alloc ?_ _)); exact BKL.out) hb); have n2_ := Aside0.mk (blk_below (by (with_reducible repeat (first | refine blk_drewN ?_ _ | refine blk_drew ?_ | refine blk_alloc ?_ _)); exact BKR.out) hb); have n3_ := Aside0.mk (below_step (by repeat (first | (with_reducible first | exact HB.out | apply below_alloc | apply pw_below_drewN | apply below_drew1) | exact HB.out)) hb); clear HG BKL BKR HB hb; have HG := n0_; have BKL := n1_; have BKR := n2_; have HB := n3_; clear n0_ n1_ n2_ n3_; have hcs0 : w5.cell? ⟨gr, 0, none⟩ = some (.int .i64 0) := (blk_cell BKR.out 0).trans rfl; have hcs1 : w5.cell? ⟨gr, 1, none⟩ = some (.slice none 0 0) := (blk_cell BKR.out 1).trans rfl; have hfs0 := blk_frozen BKR.out 0; have hfs1 := blk_frozen BKR.out 1))
              refine bodyPost_ret (results_ct rfl _ _ gr 26 #[.int .i64 0, .slice none 0 0] (0, 0) _ rfl (by (with_reducible repeat (first | refine blk_drewN ?_ _ | refine blk_drew ?_ | refine blk_alloc ?_ _)); refine blk_put (cs := #[.int .i64 0, .slice none 0 0]) ?_ 1 _ rfl; (with_reducible repeat (first | refine blk_drewN ?_ _ | refine blk_drew ?_ | refine blk_alloc ?_ _)); refine blk_put (cs := #[.int .i64 0, .slice none 0 0]) ?_ 0 _ rfl; (with_reducible repeat (first | refine blk_drewN ?_ _ | refine blk_drew ?_ | refine blk_alloc ?_ _)); exact BKR.out) Try.underlying26 rfl (by kernel_rfl)) rfl ?_
              exact ⟨_, rfl, Kd.R_nil _ _ _ _ _, by repeat (first | (with_reducible first | exact HB.out | apply below_alloc | apply pw_below_drewN | apply below_drew1 | refine below_set ?_ GR.out) | exact HB.out)⟩
            | false =>
              subst hb0
              rw [if_neg (by simp)] at hp
              have HP := Aside0.mk hp
              clear hp
              go_wp2_with (first | ((with_reducible refine (impl_between.calls (t : Int) 0 ((l0.length : Int) - 1) true _ HBT.out).mono ?_); rintro e w' ⟨rfl, ⟨q2, rfl⟩⟩) | ((with_reducible refine (isOver_calls k a A0 c0 l0 HN20.out s (by have := HSM.out; omega) false g bm _ ?sg ?sr HC.out HH.out).mono ?_); (case sg => exact (by (with_reducible repeat (first | refine blk_drewN ?_ _ | refine blk_drew ?_)); exact HG.out)); (case sr => exact Kd.C_below HR.out (by repeat (first | exact HB.out | apply pw_below_drewN))); rintro e w5 ⟨rfl, hb⟩; have n0_ := Aside0.mk (show Game A0 c0 a l0 g bm w5 from blk_below (by (with_reducible repeat (first | refine blk_drewN ?_ _ | refine blk_drew ?_)); exact HG.out) hb); have n1_ := Aside0.mk (blk_below (by (with_reducible repeat (first | refine blk_drewN ?_ _ | refine blk_drew ?_ | refine blk_alloc ?_ _)); exact BKL.out) hb); have n2_ := Aside0.mk (blk_below (by (with_reducible repeat (first | refine blk_drewN ?_ _ | refine blk_drew ?_ | refine blk_alloc ?_ _)); exact BKR.out) hb); have n3_ := Aside0.mk (below_step (by repeat (first | (with_reducible first | exact HB.out | apply below_alloc | apply pw_below_drewN | apply below_drew1) | exact HB.out)) hb); clear HG BKL BKR HB hb; have HG := n0_; have BKL := n1_; have BKR := n2_; have HB := n3_; clear n0_ n1_ n2_ n3_; have hcs0 : w5.cell? ⟨gr, 0, none⟩ = some (.int .i64 0) := (blk_cell BKR.out 0).trans rfl; have hcs1 : w5.cell? ⟨gr, 1, none⟩ = some (.slice none 0 0) := (blk_cell BKR.out 1).trans rfl; have hfs0 := blk_frozen BKR.out 0; have hfs1 := blk_frozen BKR.out 1))
              go_roundg (l1.length - (i + 1))
              case measure => have := HI.out; omega
              case rel => exact ⟨i + 1, s2, HI.out, Nat.le_refl _, by rw [← HWI.out], rfl, HP, ⟨Nat.lt_of_le_of_lt (by rw [HS2.out]; exact Nat.sub_le _ _) HSL.out⟩, HG, BKL, BKR, HB⟩
      · have d1 : decide ((i : Int) < (l1.length : Int)) = false := decide_eq_false (by omega)
        obtain rfl : i = l1.length := by omega
        have hp := HP.out
        rw [List.drop_length, playGo] at hp
        injection hp with hp
        subst hp
        have hr_ := HO.out
        simp only [playEnd, Prod.mk.injEq] at hr_
        obtain ⟨rfl, rfl, rfl⟩ := hr_
        clear hlt hi HP
        go_wp2
        have BKL2 := Aside0.mk (blk_drew BKL.out)
        have BKR2 := Aside0.mk (blk_drew BKR.out)
        have HG2 := Aside0.mk (show Game A0 c0 a l0 g bm wr.drew from blk_drew HG.out)
        have HB2 := Aside0.mk (below_drew1 HB.out)
        clear BKL BKR HG HB hcl1 hcr0 hcr1 hfr0 hfr1
        refine start_ (n := 8) (S := fun w' => w'.cell? ⟨gl, 0, none⟩ = some (.int .i64 a)) (ds := []) #[false, false, false, false, false, false, false, false] (by kernel_rfl) rfl rfl ((blk_cell BKL2.out 0).trans rfl) (fun hHeld => ?_)
        generalize wr.drew = w6 at BKL2 BKR2 HG2 HB2 hHeld ⊢
        refine pure_ (i := 0) (N := some 52) (v := ?_) (a' := ?_) #[true, false, false, false, false, false, false, false] rfl rfl (by kernel_rfl) (fun _ _ _ h => h) (Or.inl ⟨by rfl, ?_⟩) ?_ ?_
        rotate_left
        · intro w'
          go_simp
          with_reducible rfl
        rotate_left
        · simp only [Act.put, List.setIfInBounds_toArray, List.set_cons_zero, List.set_cons_succ, i64_w, i32_w]
          rfl
        refine take_ (i := 1) (N := some 53) (v := ?_) (a' := ?_) #[true, true, false, false, false, false, false, false] rfl rfl (by kernel_rfl) (fun _ _ _ h => h) (Or.inl ⟨by rfl, ?_⟩) hHeld ?_ ?_
        rotate_left
        · rintro w' s0
          go_simp
          with_reducible rfl
        rotate_left
        · simp only [Act.put, List.setIfInBounds_toArray, List.set_cons_zero, List.set_cons_succ, i64_w, i32_w]
          rfl
        refine pure_ (i := 2) (N := some 54) (v := ?_) (a' := ?_) #[true, true, true, false, false, false, false, false] rfl rfl (by kernel_rfl) (fun _ _ _ h => h) (Or.inl ⟨by rfl, ?_⟩) ?_ ?_
        rotate_left
        · intro w'
          go_simp
          with_reducible rfl
        rotate_left
        · simp only [Act.put, List.setIfInBounds_toArray, List.set_cons_zero, List.set_cons_succ, i64_w, i32_w]
          rfl
        refine pure_ (i := 3) (N := some 55) (v := ?_) (a' := ?_) #[true, true, true, true, false, false, false, false] rfl rfl (by kernel_rfl) (fun _ _ _ h => h) (Or.inl ⟨by rfl, ?_⟩) ?_ ?_
        rotate_left
        · intro w'
          go_simp
          with_reducible rfl
        rotate_left
        · simp only [Act.put, List.setIfInBounds_toArray, List.set_cons_zero, List.set_cons_succ, i64_w, i32_w]
          rfl
        refine one_ (i := 4) (N := some 56) #[true, true, true, true, true, false, false, false] rfl rfl (by kernel_rfl) (by decide) (fun K hK => ?_)
        refine goes_ Try.func126 (by kernel_rfl) rfl #[.pointer (some ⟨g, 0, none⟩), .int .u64 (s : Int)] (by rfl) rfl rfl (by (try simp only [List.map_toArray, List.map_cons, List.map_nil]); first | done | rfl | (simp only [List.length_drop, List.length_take]; rfl)) ?_
        with_reducible refine (left_calls a A0 c0 l0 HN20.out s (by have := HSM.out; omega) g bm _ HG2.out (Kd.C_below HR.out HB2.out) HC.out).mono ?_
        rintro e w7 ⟨v, rfl, ho, hb⟩
        refine ⟨_, rfl, ?_⟩
        have BKL3 := Aside0.mk (blk_below BKL2.out hb)
        have BKR3 := Aside0.mk (blk_below BKR2.out hb)
        have HB3 := Aside0.mk (below_step HB2.out hb)
        have HOO := Aside0.mk (Kd.R_new' ho (u := .slice (some ⟨gr, 0, none⟩) 0 0) (fun k_ e_ => by injection e_ with e_; rw [← e_]; exact blk_lt BKR2.out))
        have HO3 := Aside0.mk (Kd.R_lower HOO.out (below_size HB2.out))
        clear BKL2 BKR2 HG2 HB2 ho hb HOO
        obtain ⟨Al, cl, el⟩ := Kd.R_slice HO3.out
        subst el
        refine hK.out _ _ ((blk_cell BKL3.out 0).trans rfl) (fun hHeld => ?_)
        clear hK K
        refine norm_ (a' := ?_) ?_ ?_
        rotate_left
        · show Act.put _ (some 56) _ = _
          simp only [Act.put, List.setIfInBounds_toArray, List.set_cons_zero, List.set_cons_succ, i64_w, i32_w]
          rfl
        refine pure_ (i := 5) (N := some 57) (v := ?_) (a' := ?_) #[true, true, true, true, true, true, false, false] rfl rfl (by kernel_rfl) (fun _ _ _ h => h) (Or.inl ⟨by rfl, ?_⟩) ?_ ?_
        rotate_left
        · intro w'
          go_simp
          with_reducible rfl
        rotate_left
        · simp only [Act.put, List.setIfInBounds_toArray, List.set_cons_zero, List.set_cons_succ, i64_w, i32_w]
          rfl
        have hcr0 : w7.cell? ⟨gr, 0, none⟩ = some (.int .i64 0) := (blk_cell BKR3.out 0).trans rfl
        have hcr1 : w7.cell? ⟨gr, 1, none⟩ = some (.slice none 0 0) := (blk_cell BKR3.out 1).trans rfl
        have hfr0 := blk_frozen BKR3.out 0
        have hfr1 := blk_frozen BKR3.out 1
        refine one_ (i := 6) (N := none) #[true, true, true, true, true, true, true, false] rfl rfl (by kernel_rfl) (by decide) (fun K hK => ?_)
        refine skip_step (by rfl) rfl (w1 := (w7.setCell ⟨gr,0,none⟩ (.int .i64 a)).setCell ⟨gr,1,none⟩ (.slice Al (leftR l0 s).length cl)) (by go_simp) ?_
        have BKR4 := Aside0.mk (blk_put (blk_put BKR3.out 0 (.int .i64 a) rfl) 1 (.slice Al (leftR l0 s).length cl) rfl)
        have BKL4 := Aside0.mk (blk_far (blk_far BKL3.out (p := ⟨gr, 0, none⟩) NLR.out (.int .i64 a)) (p := ⟨gr, 1, none⟩) NLR.out (.slice Al (leftR l0 s).length cl))
        have HB4 := Aside0.mk (below_set (j := 1) (v := .slice Al (leftR l0 s).length cl) (below_set (j := 0) (v := .int .i64 a) HB3.out GR.out) GR.out)
        have HO4 := Aside0.mk (Kd.R_far (Kd.R_far HO3.out (p := ⟨gr, 0, none⟩) (fun k_ hk_ e_ => hk_.2 (by rw [e_]; rfl)) (.int .i64 a)) (p := ⟨gr, 1, none⟩) (fun k_ hk_ e_ => hk_.2 (by rw [e_]; rfl)) (.slice Al (leftR l0 s).length cl))
        refine hK.out _ _ ((blk_cell BKL4.out 0).trans rfl) (fun hHeld => ?_)
        clear hK K
        generalize (w7.setCell ⟨gr,0,none⟩ (.int .i64 a)).setCell ⟨gr,1,none⟩ (.slice Al (leftR l0 s).length cl) = w8 at BKL4 BKR4 HB4 HO4 hHeld ⊢
        refine pure_ (i := 7) (N := some 5) (v := ?_) (a' := ?_) #[true, true, true, true, true, true, true, true] rfl rfl (by kernel_rfl) (fun _ _ _ h => h) (Or.inl ⟨by rfl, ?_⟩) ?_ ?_
        rotate_left
        · intro w'
          go_simp
          with_reducible rfl
        rotate_left
        · simp only [Act.put, List.setIfInBounds_toArray, List.set_cons_zero, List.set_cons_succ, i64_w, i32_w]
          rfl
        refine done_ (by kernel_rfl) ?_
        go_wp2
        refine bodyPost_ret (results_ct rfl _ _ gr 26 #[.int .i64 a, .slice Al (leftR l0 s).length cl] (0, 0) _ rfl (by (with_reducible repeat (first | refine blk_drewN ?_ _ | refine blk_drew ?_ | refine blk_alloc ?_ _)); exact BKR4.out) Try.underlying26 rfl (by kernel_rfl)) rfl ?_
        exact ⟨_, rfl, by (with_reducible repeat (first | apply Kd.R_alloc | apply Kd.R_drewN | apply Kd.R_drew)); exact Kd.R_mono HO4.out (fun _ h_ => h_.1), by repeat (first | (with_reducible first | exact HB4.out | apply below_alloc | apply pw_below_drewN | apply below_drew1 | refine below_set ?_ GR.out) | exact HB4.out)⟩


end Go.Proofs.Ytejbgonbnijgkaa.B
