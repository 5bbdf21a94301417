/- The walks of functions of the given program and of its reference: each call of the machine returns what the plain Lean function of the same name says. Conditions: those in each statement. (Written by this session's program over the kit's print.) -/
import Derived.Test.YtpgbfkgmmkchnaaGreatB0
import Derived.Test.YtpgbfkgmmkchnaaGreatB1
namespace Go.Proofs.YtpgbfkgmmkchnaaGreat.B
open Go.RowKit Go.Proofs.YtpgbfkgmmkchnaaGreatW.PrintWords Go.Proofs.YtpgbfkgmmkchnaaGreatW.PrintLast Go.Proofs.YtpgbfkgmmkchnaaGreatW.PrintMore
attribute [local go_sem] max2_int min2_int max_two min_two max_three min_three max_four min_four   -- for this text's walks alone
set_option linter.unusedVariables false
set_option linter.unusedSimpArgs false

/-! ### spec_laDown: function 60 -/
def spec_laDown.l0 : Nat → Int → List Int → List Int → Int → Int → Option (List Int)
 | 0, _, _, _, _, _ => none
 | k + 1, x1, x5, x10, x11, x12 => if x12 < x11 then (if 0 ≤ x12 then (if x12 < (x10.length : Int) then ((spec_laOver.f x1 (rd x10 x12)).bind fun t260 => (if x5.length < 17592186044416 then (spec_laDown.l0 k t260 (x5 ++ [t260]) x10 x11 (wrap64 (x12 + 1))) else (none))) else (none)) else (none)) else (some x5)
def spec_laDown.f (k : Nat) (l0 : List Int) (a1 : Int) : Option (List Int) := spec_laDown.l0 k a1 (([a1] : List Int)) l0 (l0.length : Int) 0
theorem spec_laDown.mono_l : ∀ k, (∀ y0 y1 y2 y3 y4, LeO (spec_laDown.l0 k y0 y1 y2 y3 y4) (spec_laDown.l0 (k + 1) y0 y1 y2 y3 y4))
 | 0 => fun _ _ _ _ _ r h => by simp [spec_laDown.l0] at h
 | k + 1 => by
  have ih0 := spec_laDown.mono_l k
  ·intro y0 y1 y2 y3 y4
   unfold spec_laDown.l0
   repeat' first
   | (with_reducible exact ih0 _ _ _ _ _)
   | (with_reducible exact LeO.refl _)
   | (with_reducible exact LeO.none _)
   | (with_reducible refine LeO.ite ?_ ?_)
   | (with_reducible refine LeO.bind ?_ (fun _ => ?_))
   | exact LeO.none _
   | refine LeO.ite ?_ ?_
   | refine LeO.bind ?_ (fun _ => ?_)
theorem spec_laDown.mono : ∀ a0 a1 k, LeO (spec_laDown.f k a0 a1) (spec_laDown.f (k + 1) a0 a1) := by
 intro a0 a1 k
 have ih0 := spec_laDown.mono_l k
 unfold spec_laDown.f
 repeat' first
  | (with_reducible exact ih0 _ _ _ _ _)
  | (with_reducible exact LeO.refl _)
  | (with_reducible exact LeO.none _)
  | (with_reducible refine LeO.ite ?_ ?_)
  | (with_reducible refine LeO.bind ?_ (fun _ => ?_))
  | exact LeO.none _
  | refine LeO.ite ?_ ?_
  | refine LeO.bind ?_ (fun _ => ?_)
set_option maxHeartbeats 8000000 in
set_option maxRecDepth 100000 in
theorem spec_laDown.calls (k : Nat) (A0 : Option Addr) (c0 : Nat) (l0 : List Int) (a1 : Int) (r : List Int) (w : World) (hr0 : Kd.C (Kd.int .i64) w A0 l0.length l0) (hc0 : l0.length ≤ c0) (h : spec_laDown.f k l0 a1 = some r) :
 Calls Tryz.prog 60 #[.slice A0 l0.length c0, .int .i64 a1] w fun e w' => ∃ v0_ : Value, e = .returned (v0_) ∧ Kd.R (Kd.int .i64) 3 w' w.heap.size (fun _ => True) v0_ r ∧ Below w.heap.size w w' := by
 have HR0 := a_ hr0
 have HC0 := a_ hc0
 clear hr0 hc0
 have HB := a_ (Below.refl w.heap.size w)
 have H : (spec_laDown.l0 k a1 (([a1] : List Int)) l0 (l0.length : Int) 0) = some r := h
 clear h
 obtain ⟨y256, hy256⟩ : ∃ y_ : List Int, y_ = (([a1] : List Int)) := ⟨_, rfl⟩
 replace H : (spec_laDown.l0 k a1 y256 l0 (l0.length : Int) 0) = some r := by first | (rw [hy256]; with_reducible exact H) | (have H2_ := (Option.bind_some _ _).symm.trans H; rw [hy256]; with_reducible exact H2_) | (have H2_ := (Option.bind_some _ _).symm.trans H; with_reducible exact H2_) | with_reducible exact H | (rw [hy256]; exact H) | exact H
 have Ny256 := a_ hy256
 clear hy256
 have H' := a_ H
 clear H
 go_enter Tryz.func60, Tryz.ntmps60
 go_wp2_with (first | ((with_reducible refine gate_dst (N := 9) rfl ?_); refine Kd.R_lit (Kd.int .i64) _ 3 ?hg (N := 9) ?hd (xs := ([a1] : List Int)) (inner := [.int .i64 a1]) (ok := fun _ => True) (okp := fun _ => True) ?hr ?hp (fun _ hk => hk) trivial (Below.refl _ _) (Nat.le_refl _) (by simp) ?_; (case hd => rfl); (case hg => rfl); (case hr => first | (go_simp; done) | (go_simp; rfl)); (case hp => exact (Reps.one (show Kd.M (Kd.int .i64) _ _ _ a1 [.int .i64 a1] from rfl) (Reps.none _ _))); intro v257 w3 ho4 hb hg_ hnew_; clear hg_ hnew_; (first | rw [← Ny256.out] at ho4 | (simp only [Int.reduceToNat] at ho4; rw [← Ny256.out] at ho4)); have HO258 := a_ (Kd.R_lower ho4 (below_size (Bl_ HB))); replace HB := Bs_ HB hb; clear hb ho4))
 go_loopg [1, 5, 12] k (fun kq v1 v5 v12 w' => ∃ (x1_1 : Int) (x5_1 : List Int) (x12_1 : Int), v1 = .int .i64 x1_1 ∧ v12 = .int .i64 x12_1 ∧ Aside0 (spec_laDown.l0 kq x1_1 x5_1 l0 (l0.length : Int) x12_1 = some r) ∧ Aside0 (kq ≤ k) ∧ Aside0 (Kd.R (Kd.int .i64) 3 w' w.heap.size (fun _ => True) v5 x5_1) ∧ Aside0 (Below w.heap.size w w'))
 case atStart => exact ⟨(a1), (y256), (0), rs_, rs_, H', ⟨Nat.le_refl _⟩, ⟨Rl_ HO258.out⟩, ⟨Bl_ HB⟩⟩
 case round =>
  clear H'
  try clear p2
  obtain ⟨x1_1, x5_1, x12_1, rfl, rfl, HA, HK1, HO_5, HB⟩ := hrel
  cases gk with
  | zero => exact absurd HA.out (by simp [spec_laDown.l0])
  | succ k1 =>
   have H := HA.out
   clear HA
   simp only [spec_laDown.l0] at H
   by_cases c5 : x12_1 < (l0.length : Int)
   rotate_left
   ·rw [if_neg c5] at H
    have c5b0 : decide (x12_1 < (l0.length : Int)) = false := decide_eq_false c5
    clear c5
    obtain rfl := Option.some.inj H
    go_wp2
    go_ret
    exact ⟨_, re_, by (with_reducible repeat (first | apply Kd.R_alloc | apply Kd.R_drewN | apply Kd.R_drew)); exact HO_5.out, Bl_ HB⟩
   rw [if_pos c5] at H
   have c5b0 : decide (x12_1 < (l0.length : Int)) = true := decide_eq_true c5
   clear c5
   by_cases c6 : 0 ≤ x12_1
   rotate_left
   ·rw [if_neg c6] at H
    cases H
   rw [if_pos c6] at H
   have c6b0 : decide (0 ≤ x12_1) = true := decide_eq_true c6
   clear c6
   by_cases c7 : x12_1 < (l0.length : Int)
   rotate_left
   ·rw [if_neg c7] at H
    cases H
   rw [if_pos c7] at H
   have c7b0 : decide (x12_1 < (l0.length : Int)) = true := decide_eq_true c7
   clear c7
   obtain ⟨t260, A8, H⟩ := ob_ H
   (try dsimp only at H)
   by_cases c9 : x5_1.length < 17592186044416
   rotate_left
   ·rw [if_neg c9] at H
    cases H
   rw [if_pos c9] at H
   have LMc9 := a_ c9
   clear c9
   obtain ⟨y261, hy261⟩ : ∃ y_ : List Int, y_ = (x5_1 ++ [t260]) := ⟨_, rfl⟩
   replace H : (spec_laDown.l0 k1 t260 y261 l0 (l0.length : Int) (wrap64 (x12_1 + 1))) = some r := by first | (rw [hy261]; with_reducible exact H) | (have H2_ := (Option.bind_some _ _).symm.trans H; rw [hy261]; with_reducible exact H2_) | (have H2_ := (Option.bind_some _ _).symm.trans H; with_reducible exact H2_) | with_reducible exact H | (rw [hy261]; exact H) | exact H
   have Ny261 := a_ hy261
   clear hy261
   have H' := a_ H
   clear H
   have p259 : 0 ≤ (x12_1 : Int) := od_
   have q259 : x12_1 < (l0.length : Int) := od_
   obtain ⟨ad259, e259, hx259_0⟩ := Kd.at_int HR0.out x12_1 p259 q259
   cases e259
   replace hx259_0 := (HB.out.cell (World.block_lt_of_cell? w _ hx259_0)).trans hx259_0
   replace p259 := eq_true p259
   replace q259 := eq_true q259
   go_wp2_with (first | ((with_reducible refine gate_callee (f := 75) rfl ?_); refine gm_ (some 18) Tryz.func75 #[.int .i64 x1_1, .int .i64 (rd l0 x12_1)] rfl ?_; (with_reducible refine (spec_laOver.calls x1_1 (rd l0 x12_1) t260 _ A8.out).mono ?_); rintro e w' ⟨rfl, ⟨nd, rfl⟩⟩; refine ⟨_, rfl, ?_⟩) | ((with_reducible refine gate_builtin (b := .append) (xs := #[.tmp 19, .tmp 21]) rfl ?_); at_builtin; refine Kd.R_append (Kd.int .i64) (w0 := w) w.heap.size rfl (.tmp 19) (.tmp 21) 31 3 (.int .i64 0) 8 rfl Tryz.underlying31 info3 rfl (by decide) (by omega) u5 x5_1 t260 [.int .i64 t260] (fun _ => True) (fun _ => False) rfl rfl ?aP (fun _ hk => hk.elim) ?aF ?aO ?aB ?aS ?aL ?_; (case aP => exact rfl); (case aB => exact (Bl_ HB)); (case aF => exact (fun _ _ => trivial)); (case aO => exact (Rl_ HO_5.out)); (case aS => exact (below_size (Bl_ HB))); (case aL => have := LMc9.out; omega); intro v262 w10 ho hb hg hat; rw [← Ny261.out] at ho; replace HB := a_ (hb); have HO263 := a_ (ho); clear HO_5; clear ho hb hg hat))
   go_roundg k1
   case measure => have := HK1.out; omega
   case rel => exact ⟨(t260), (y261), (wrap64 (x12_1 + 1)), rs_, rs_, H', ⟨by have := HK1.out; omega⟩, ⟨Rl_ HO263.out⟩, ⟨Bl_ HB⟩⟩

/-! ### spec_laResult: function 43 -/
def spec_laResult.l0 : Nat → Int → List Int → List Int → Int → Option (List Int)
 | 0, _, _, _, _ => none
 | k + 1, x0, x1, x5, x6 => if x6 < x0 then ((spec_laDown.f k x1 x6).bind fun t264 => (if 0 ≤ (x1.length : Int) then (if (x1.length : Int) < (t264.length : Int) then (if x5.length < 17592186044416 then (spec_laResult.l0 k x0 x1 (x5 ++ [rd t264 (x1.length : Int)]) (wrap64 (x6 + 1))) else (none)) else (none)) else (none))) else (some x5)
def spec_laResult.f (k : Nat) (a0 : Int) (l1 : List Int) : Option (List Int) := spec_laResult.l0 k a0 l1 ([] : List Int) 0
theorem spec_laResult.mono_l : ∀ k, (∀ y0 y1 y2 y3, LeO (spec_laResult.l0 k y0 y1 y2 y3) (spec_laResult.l0 (k + 1) y0 y1 y2 y3))
 | 0 => fun _ _ _ _ r h => by simp [spec_laResult.l0] at h
 | k + 1 => by
  have ih0 := spec_laResult.mono_l k
  ·intro y0 y1 y2 y3
   unfold spec_laResult.l0
   repeat' first
   | (with_reducible exact ih0 _ _ _ _)
   | (with_reducible exact spec_laDown.mono _ _ _)
   | (with_reducible exact LeO.refl _)
   | (with_reducible exact LeO.none _)
   | (with_reducible refine LeO.ite ?_ ?_)
   | (with_reducible refine LeO.bind ?_ (fun _ => ?_))
   | exact LeO.none _
   | refine LeO.ite ?_ ?_
   | refine LeO.bind ?_ (fun _ => ?_)
theorem spec_laResult.mono : ∀ a0 a1 k, LeO (spec_laResult.f k a0 a1) (spec_laResult.f (k + 1) a0 a1) := by
 intro a0 a1 k
 have ih0 := spec_laResult.mono_l k
 unfold spec_laResult.f
 repeat' first
  | (with_reducible exact ih0 _ _ _ _)
  | (with_reducible exact LeO.refl _)
  | (with_reducible exact LeO.none _)
  | (with_reducible refine LeO.ite ?_ ?_)
  | (with_reducible refine LeO.bind ?_ (fun _ => ?_))
  | exact LeO.none _
  | refine LeO.ite ?_ ?_
  | refine LeO.bind ?_ (fun _ => ?_)
set_option maxHeartbeats 8000000 in
set_option maxRecDepth 100000 in
theorem spec_laResult.calls (k : Nat) (a0 : Int) (A1 : Option Addr) (c1 : Nat) (l1 : List Int) (r : List Int) (w : World) (hr1 : Kd.C (Kd.int .i64) w A1 l1.length l1) (hc1 : l1.length ≤ c1) (h : spec_laResult.f k a0 l1 = some r) :
 Calls Tryz.prog 43 #[.int .i64 a0, .slice A1 l1.length c1] w fun e w' => ∃ v0_ : Value, e = .returned (v0_) ∧ Kd.R (Kd.int .i64) 3 w' w.heap.size (fun _ => True) v0_ r ∧ Below w.heap.size w w' := by
 have HR1 := a_ hr1
 have HC1 := a_ hc1
 clear hr1 hc1
 have HB := a_ (Below.refl w.heap.size w)
 have H : (spec_laResult.l0 k a0 l1 ([] : List Int) 0) = some r := h
 clear h
 have H' := a_ H
 clear H
 go_enter Tryz.func43, Tryz.ntmps43
 go_wp2
 go_loopg [5, 6] k (fun kq v5 v6 w' => ∃ (x5_1 : List Int) (x6_1 : Int), v6 = .int .i64 x6_1 ∧ Aside0 (spec_laResult.l0 kq a0 l1 x5_1 x6_1 = some r) ∧ Aside0 (kq ≤ k) ∧ Aside0 (Kd.R (Kd.int .i64) 3 w' w.heap.size (fun _ => True) v5 x5_1) ∧ Aside0 (Below w.heap.size w w'))
 case atStart => exact ⟨(([] : List Int)), (0), rs_, H', ⟨Nat.le_refl _⟩, ⟨by first | exact Kd.R_nil _ _ _ _ _ | exact Kd.N_nil _ _ _ _ _ | exact Kd.V_nil _ _ _ _ _ | exact Kd.Q_nil _ _ _ _ _ | exact Kd.S_nil _ _ _ _ _⟩, ⟨Bl_ HB⟩⟩
 case round =>
  clear H'
  try clear c1
  try clear p2
  obtain ⟨x5_1, x6_1, rfl, HA, HK1, HO_5, HB⟩ := hrel
  cases gk with
  | zero => exact absurd HA.out (by simp [spec_laResult.l0])
  | succ k1 =>
   have H := HA.out
   clear HA
   simp only [spec_laResult.l0] at H
   by_cases c3 : x6_1 < a0
   rotate_left
   ·rw [if_neg c3] at H
    have c3b0 : decide (x6_1 < a0) = false := decide_eq_false c3
    clear c3
    obtain rfl := Option.some.inj H
    go_wp2
    go_ret
    exact ⟨_, re_, by (with_reducible repeat (first | apply Kd.R_alloc | apply Kd.R_drewN | apply Kd.R_drew)); exact HO_5.out, Bl_ HB⟩
   rw [if_pos c3] at H
   have c3b0 : decide (x6_1 < a0) = true := decide_eq_true c3
   clear c3
   obtain ⟨t264, A4, H⟩ := ob_ H
   (try dsimp only at H)
   by_cases c5 : 0 ≤ (l1.length : Int)
   rotate_left
   ·rw [if_neg c5] at H
    cases H
   rw [if_pos c5] at H
   have c5b0 : decide (0 ≤ (l1.length : Int)) = true := decide_eq_true c5
   have c5b1 : decide (0 ≤ l1.length) = true := decide_eq_true (by omega)
   clear c5
   by_cases c6 : (l1.length : Int) < (t264.length : Int)
   rotate_left
   ·rw [if_neg c6] at H
    cases H
   rw [if_pos c6] at H
   have c6b0 : decide ((l1.length : Int) < (t264.length : Int)) = true := decide_eq_true c6
   have c6b1 : decide (l1.length < t264.length) = true := decide_eq_true (Int.ofNat_lt.mp c6)
   clear c6
   by_cases c7 : x5_1.length < 17592186044416
   rotate_left
   ·rw [if_neg c7] at H
    cases H
   rw [if_pos c7] at H
   have LMc7 := a_ c7
   clear c7
   obtain ⟨y268, hy268⟩ : ∃ y_ : List Int, y_ = (x5_1 ++ [rd t264 (l1.length : Int)]) := ⟨_, rfl⟩
   replace H : (spec_laResult.l0 k1 a0 l1 y268 (wrap64 (x6_1 + 1))) = some r := by first | (rw [hy268]; with_reducible exact H) | (have H2_ := (Option.bind_some _ _).symm.trans H; rw [hy268]; with_reducible exact H2_) | (have H2_ := (Option.bind_some _ _).symm.trans H; with_reducible exact H2_) | with_reducible exact H | (rw [hy268]; exact H) | exact H
   have Ny268 := a_ hy268
   clear hy268
   have H' := a_ H
   clear H
   go_wp2_with (first | ((with_reducible refine gate_callee (f := 60) rfl ?_); refine gm_ (some 15) Tryz.func60 #[.slice A1 l1.length c1, .int .i64 x6_1] rfl ?_; (with_reducible refine (spec_laDown.calls k1 _ _ l1 x6_1 t264 _ ?side1 ?side2 A4.out).mono ?_); (case side1 => exact Cl_ (Kd.C_below HR1.out HB.out)); (case side2 => exact HC1.out); rintro e w8 ⟨v265, rfl, ho0, hb⟩; refine ⟨_, rfl, ?_⟩; have HO266 := a_ (Kd.R_lower (Kd.R_new' ho0 (Kd.R_lt (Rl_ HO_5.out))) (below_size (Bl_ HB))); replace HO_5 := a_ (Kd.R_elder' (Rl_ HO_5.out) (Kd.R_base ho0) hb); replace HB := Bs_ HB hb; (try clear hb); (try clear hb2); (try clear hk); (try clear hi); (try clear ho0); obtain ⟨Ao9, co9, eo9⟩ := Kd.R_slice HO266.out; subst eo9; have p267 : 0 ≤ ((l1.length : Int) : Int) := od_; have q267 : (l1.length : Int) < (t264.length : Int) := od_; obtain ⟨ad267, e267, hx267_0⟩ := Kd.at_int (Kd.R_reads' HO266.out).2.2 (l1.length : Int) p267 q267; cases e267; (try simp only [Go.IntWalk.toNatUp] at hx267_0); replace p267 := eq_true p267; replace q267 := eq_true q267) | ((with_reducible refine gate_builtin (b := .append) (xs := #[.tmp 12, .tmp 20]) rfl ?_); at_builtin; refine Kd.R_append (Kd.int .i64) (w0 := w) w.heap.size rfl (.tmp 12) (.tmp 20) 31 3 (.int .i64 0) 8 rfl Tryz.underlying31 info3 rfl (by decide) (by omega) u5 x5_1 (rd t264 (l1.length : Int)) [.int .i64 (rd t264 (l1.length : Int))] (fun k_ => some k_ ≠ (.slice (some ad267) t264.length co9 : Value).ownBlock) (fun _ => False) rfl rfl ?aP (fun _ hk => hk.elim) ?aF ?aO ?aB ?aS ?aL ?_; (case aP => exact rfl); (case aB => exact (Bl_ HB)); (case aF => exact (fun k_ hk => Kd.fresh' (Kd.R_lt (Rl_ HO266.out)) k_ hk)); (case aO => exact (Rl_ (Kd.R_mono HO_5.out (fun _ hk => hk.2)))); (case aS => exact (below_size (Bl_ HB))); (case aL => have := LMc7.out; omega); intro v269 w10 ho hb hg hat; rw [← Ny268.out] at ho; replace HO266 := a_ (Kd.R_after (ok := (fun _ => True)) (Rl_ HO266.out) hg hat); replace HB := a_ (hb); have HO270 := a_ (ho); clear HO_5; clear ho hb hg hat))
   go_roundg k1
   case measure => have := HK1.out; omega
   case rel => exact ⟨(y268), (wrap64 (x6_1 + 1)), rs_, H', ⟨by have := HK1.out; omega⟩, ⟨Rl_ (Kd.R_mono HO270.out (fun _ hk => trivial))⟩, ⟨Bl_ HB⟩⟩

/-! ### spec_BrickOrder: function 17 -/
def spec_BrickOrder.f (k : Nat) (a0 : Int) (a1 : Int) : Option (List Int × Bool) := (spec_BrickLadder.f k a0 a1).bind fun bt271 => (if bt271.2.2 = true then ((spec_laResult.f k a0 bt271.2.1).bind fun t277 => (some (t277, true))) else (some (([] : List Int), false)))
theorem spec_BrickOrder.mono : ∀ a0 a1 k, LeO (spec_BrickOrder.f k a0 a1) (spec_BrickOrder.f (k + 1) a0 a1) := by
 intro a0 a1 k
 unfold spec_BrickOrder.f
 repeat' first
  | (with_reducible exact spec_BrickLadder.mono _ _ _)
  | (with_reducible exact spec_laResult.mono _ _ _)
  | (with_reducible exact LeO.refl _)
  | (with_reducible exact LeO.none _)
  | (with_reducible refine LeO.ite ?_ ?_)
  | (with_reducible refine LeO.bind ?_ (fun _ => ?_))
  | exact LeO.none _
  | refine LeO.ite ?_ ?_
  | refine LeO.bind ?_ (fun _ => ?_)
set_option maxHeartbeats 8000000 in
set_option maxRecDepth 100000 in
theorem spec_BrickOrder.calls (k : Nat) (a0 : Int) (a1 : Int) (r1 : List Int) (r2 : Bool) (w : World) (h : spec_BrickOrder.f k a0 a1 = some (r1, r2)) :
 Calls Tryz.prog 17 #[.int .i64 a0, .int .i64 a1] w fun e w' => ∃ v0_ : Value, e = .returned (.tuple #[v0_, .bool r2]) ∧ Kd.R (Kd.int .i64) 3 w' w.heap.size (fun _ => True) v0_ r1 ∧ Below w.heap.size w w' := by
 have hu38 := Tryz.underlying38
 have HB := a_ (Below.refl w.heap.size w)
 have H : ((spec_BrickLadder.f k a0 a1).bind fun bt271 => (if bt271.2.2 = true then ((spec_laResult.f k a0 bt271.2.1).bind fun t277 => (some (t277, true))) else (some (([] : List Int), false)))) = some (r1, r2) := h
 clear h
 obtain ⟨⟨t271, t272, t275⟩, A3, H⟩ := ob_ H
 (try dsimp only at H)
 by_cases c4 : t275 = true
 rotate_left
 ·replace c4 := Bool.eq_false_iff.mpr c4
  subst c4
  rw [if_neg (show ¬ (false = true) by decide)] at H
  simp only [Option.some.injEq, Prod.mk.injEq] at H
  obtain ⟨rfl, rfl⟩ := H
  go_enter Tryz.func17, Tryz.ntmps17
  go_wp2_with (first | ((with_reducible refine gate_callee (f := 15) rfl ?_); refine gm_ (some 11) Tryz.func15 #[.int .i64 a0, .int .i64 a1] rfl ?_; (with_reducible refine (spec_BrickLadder.calls k a0 a1 t271 t272 false _ A3.out).mono ?_); rintro e w11 ⟨v273, rfl, ho0, hb⟩; refine ⟨_, rfl, ?_⟩; have HO274 := a_ (Kd.R_lower ho0 (below_size (Bl_ HB))); replace HB := Bs_ HB hb; (try clear hb); (try clear hb2); (try clear hk); (try clear hi); (try clear ho0)) | ((with_reducible refine gate_dst (N := 6) rfl ?_); refine bx_ #[.int .i64 0, .slice none 0 0] 38 ?_ 6; intro gb276 hg w12 hbox hb; replace HO274 := a_ (Kd.R_below (Rl_ HO274.out) hb); have BK276 := a_ (hbox); have GW276 := gw_ HB hg; have GE276 := gw_ HB hg; replace HB := Bs_ HB hb; clear hb hbox hg; have hcz13_0 := cz_ (.int .i64 0) BK276 0; have hcz13_1 := cz_ (.slice none 0 0) BK276 1; have hfz13_0 := fz_ BK276 0; have hfz13_1 := fz_ BK276 1; obtain ⟨Ao14, co14, eo14⟩ := Kd.R_slice HO274.out; subst eo14))
  go_ret2
  exact ⟨_, re_, by first | exact Kd.R_nil _ _ _ _ _ | exact Kd.N_nil _ _ _ _ _ | exact Kd.V_nil _ _ _ _ _ | exact Kd.Q_nil _ _ _ _ _ | exact Kd.S_nil _ _ _ _ _, Bl_ HB⟩
 subst c4
 rw [if_pos rfl] at H
 obtain ⟨t277, A5, H⟩ := ob_ H
 (try dsimp only at H)
 simp only [Option.some.injEq, Prod.mk.injEq] at H
 obtain ⟨rfl, rfl⟩ := H
 go_enter Tryz.func17, Tryz.ntmps17
 go_wp2_with (first | ((with_reducible refine gate_callee (f := 15) rfl ?_); refine gm_ (some 11) Tryz.func15 #[.int .i64 a0, .int .i64 a1] rfl ?_; (with_reducible refine (spec_BrickLadder.calls k a0 a1 t271 t272 true _ A3.out).mono ?_); rintro e w6 ⟨v273, rfl, ho0, hb⟩; refine ⟨_, rfl, ?_⟩; have HO274 := a_ (Kd.R_lower ho0 (below_size (Bl_ HB))); replace HB := Bs_ HB hb; (try clear hb); (try clear hb2); (try clear hk); (try clear hi); (try clear ho0)) | ((with_reducible refine gate_dst (N := 6) rfl ?_); refine bx_ #[.int .i64 0, .slice none 0 0] 38 ?_ 6; intro gb276 hg w7 hbox hb; replace HO274 := a_ (Kd.R_below (Rl_ HO274.out) hb); have BK276 := a_ (hbox); have GW276 := gw_ HB hg; have GE276 := gw_ HB hg; replace HB := Bs_ HB hb; clear hb hbox hg; have hcz8_0 := cz_ (.int .i64 0) BK276 0; have hcz8_1 := cz_ (.slice none 0 0) BK276 1; have hfz8_0 := fz_ BK276 0; have hfz8_1 := fz_ BK276 1; obtain ⟨Ao9, co9, eo9⟩ := Kd.R_slice HO274.out; subst eo9) | ((with_reducible refine gate_callee (f := 43) rfl ?_); refine gm_ (some 19) Tryz.func43 #[.int .i64 a0, .slice Ao9 t272.length co9] rfl ?_; (with_reducible refine (spec_laResult.calls k a0 _ _ t272 t277 _ ?side1 ?side2 A5.out).mono ?_); (case side1 => refine (Kd.R_reads' (e := 3) (base := w.heap.size) (ok := fun k_ => True) (n := t272.length) (c := co9) ?_).2.2; exact (Rl_ (Rf2_ HO274.out BK276.out (by decide) (.int .i64 t271) (.slice Ao9 t272.length co9)))); (case side2 => exact (Kd.R_reads' HO274.out).2.1); rintro e w10 ⟨v278, rfl, ho0, hb⟩; refine ⟨_, rfl, ?_⟩; have HO279 := a_ (Kd.R_lower (Kd.R_new' ho0 (Kd.R_lt (Rl_ (Rf2_ HO274.out BK276.out (by decide) (.int .i64 t271) (.slice Ao9 t272.length co9))))) (below_size (Bl_ HB))); replace HO274 := a_ (Kd.R_elder' (Rl_ (Rf2_ HO274.out BK276.out (by decide) (.int .i64 t271) (.slice Ao9 t272.length co9))) (Kd.R_base ho0) hb); replace BK276 := a_ (blk_below (g := gb276) (o := .cells #[.int .i64 t271, .slice Ao9 t272.length co9] 38 (0, 0)) (by (with_reducible repeat (first | refine blk_drewN ?_ _ | refine blk_drew ?_ | refine blk_alloc ?_ _)); refine blk_put (cs := #[.int .i64 t271, .slice none 0 0]) ?_ 1 _ rfl; (with_reducible repeat (first | refine blk_drewN ?_ _ | refine blk_drew ?_ | refine blk_alloc ?_ _)); refine blk_put (cs := #[.int .i64 0, .slice none 0 0]) ?_ 0 _ rfl; (with_reducible repeat (first | refine blk_drewN ?_ _ | refine blk_drew ?_ | refine blk_alloc ?_ _)); exact BK276.out) hb); replace HB := Bs_ HB hb; (try clear hb); (try clear hb2); (try clear hk); (try clear hi); (try clear ho0)))
 go_ret2
 exact ⟨_, re_, by (with_reducible repeat (first | apply Kd.R_alloc | apply Kd.R_drewN | apply Kd.R_drew)); exact Kd.R_mono HO279.out (fun _ hk => trivial), Bl_ HB⟩

/-! ### laws_nLadder: function 18 -/
def laws_nLadder.f (k : Nat) (a0_0 : Int) (l0_1 : List Int) (a1_0 : Int) (l1_1 : List Int) : Option (Bool) := if a0_0 = a1_0 then ((laws_nSame.f k l0_1 l1_1).bind fun t282 => (some t282)) else (some false)
theorem laws_nLadder.mono : ∀ a0 a1 a2 a3 k, LeO (laws_nLadder.f k a0 a1 a2 a3) (laws_nLadder.f (k + 1) a0 a1 a2 a3) := by
 intro a0 a1 a2 a3 k
 unfold laws_nLadder.f
 repeat' first
  | (with_reducible exact laws_nSame.mono _ _ _)
  | (with_reducible exact LeO.refl _)
  | (with_reducible exact LeO.none _)
  | (with_reducible refine LeO.ite ?_ ?_)
  | (with_reducible refine LeO.bind ?_ (fun _ => ?_))
  | exact LeO.none _
  | refine LeO.ite ?_ ?_
  | refine LeO.bind ?_ (fun _ => ?_)
set_option maxHeartbeats 8000000 in
set_option maxRecDepth 100000 in
theorem laws_nLadder.calls (k : Nat) (a0_0 : Int) (A0_1 : Option Addr) (c0_1 : Nat) (l0_1 : List Int) (a1_0 : Int) (A1_1 : Option Addr) (c1_1 : Nat) (l1_1 : List Int) (r : Bool) (w : World) (hr0_1 : Kd.C (Kd.int .i64) w A0_1 l0_1.length l0_1) (hc0_1 : l0_1.length ≤ c0_1) (hr1_1 : Kd.C (Kd.int .i64) w A1_1 l1_1.length l1_1) (hc1_1 : l1_1.length ≤ c1_1) (h : laws_nLadder.f k a0_0 l0_1 a1_0 l1_1 = some r) :
 Calls Tryz.prog 18 #[.agg #[.int .i64 a0_0, .slice A0_1 l0_1.length c0_1], .agg #[.int .i64 a1_0, .slice A1_1 l1_1.length c1_1]] w fun e w' => e = .returned (.bool r) ∧ Below w.heap.size w w' := by
 have hu38 := Tryz.underlying38
 have HR0_1 := a_ hr0_1
 have HC0_1 := a_ hc0_1
 clear hr0_1 hc0_1
 have HR1_1 := a_ hr1_1
 have HC1_1 := a_ hc1_1
 clear hr1_1 hc1_1
 have HB := a_ (Below.refl w.heap.size w)
 have H : (if a0_0 = a1_0 then ((laws_nSame.f k l0_1 l1_1).bind fun t282 => (some t282)) else (some false)) = some r := h
 clear h
 by_cases c3 : a0_0 = a1_0
 rotate_left
 ·rw [if_neg c3] at H
  have c3b0 : (a0_0 == a1_0) = false := beq_eq_false_iff_ne.mpr c3
  have c3b1 : (a0_0 != a1_0) = true := bne_iff_ne.mpr c3
  obtain rfl := Option.some.inj H
  go_enter Tryz.func18, Tryz.ntmps18
  go_wp2_with (first | ((with_reducible refine gate_dst (N := 2) rfl ?_); refine bx_ #[.int .i64 a0_0, .slice A0_1 l0_1.length c0_1] 38 ?_ 2; intro gb280 hg w10 hbox hb; have BK280 := a_ (hbox); have GW280 := gw_ HB hg; have GE280 := gw_ HB hg; replace HB := Bs_ HB hb; clear hb hbox hg) | ((with_reducible refine gate_dst (N := 3) rfl ?_); refine bx_ #[.int .i64 a1_0, .slice A1_1 l1_1.length c1_1] 38 ?_ 3; intro gb281 hg w11 hbox hb; have BK281 := a_ (hbox); have GW281 := gw_ HB hg; have GE281 := gw_ HB hg; replace HB := Bs_ HB hb; have NB280_281 := nbl_ BK280 hg; have NB281_280 := nbg_ BK280 hg; replace BK280 := blkB_ BK280 hb; clear hb hbox hg; have hnb12 := NB280_281.out; have hnc12 := NB281_280.out; have hcz13_0 := cz_ (.int .i64 a0_0) BK280 0; have hcz13_1 := cz_ (.slice A0_1 l0_1.length c0_1) BK280 1; have hfz13_0 := fz_ BK280 0; have hfz13_1 := fz_ BK280 1; have hcz14_0 := cz_ (.int .i64 a1_0) BK281 0; have hcz14_1 := cz_ (.slice A1_1 l1_1.length c1_1) BK281 1; have hfz14_0 := fz_ BK281 0; have hfz14_1 := fz_ BK281 1))
  go_ret
  exact ⟨re_, Bl_ HB⟩
 rw [if_pos c3] at H
 have c3b0 : (a0_0 == a1_0) = true := beq_iff_eq.mpr c3
 have c3b1 : (a0_0 != a1_0) = false := bne_eq_false_iff_eq.mpr c3
 clear c3
 obtain ⟨t282, A4, H⟩ := ob_ H
 (try dsimp only at H)
 obtain rfl := Option.some.inj H
 go_enter Tryz.func18, Tryz.ntmps18
 go_wp2_with (first | ((with_reducible refine gate_dst (N := 2) rfl ?_); refine bx_ #[.int .i64 a0_0, .slice A0_1 l0_1.length c0_1] 38 ?_ 2; intro gb280 hg w5 hbox hb; have BK280 := a_ (hbox); have GW280 := gw_ HB hg; have GE280 := gw_ HB hg; replace HB := Bs_ HB hb; clear hb hbox hg) | ((with_reducible refine gate_dst (N := 3) rfl ?_); refine bx_ #[.int .i64 a1_0, .slice A1_1 l1_1.length c1_1] 38 ?_ 3; intro gb281 hg w6 hbox hb; have BK281 := a_ (hbox); have GW281 := gw_ HB hg; have GE281 := gw_ HB hg; replace HB := Bs_ HB hb; have NB280_281 := nbl_ BK280 hg; have NB281_280 := nbg_ BK280 hg; replace BK280 := blkB_ BK280 hb; clear hb hbox hg; have hnb7 := NB280_281.out; have hnc7 := NB281_280.out; have hcz8_0 := cz_ (.int .i64 a0_0) BK280 0; have hcz8_1 := cz_ (.slice A0_1 l0_1.length c0_1) BK280 1; have hfz8_0 := fz_ BK280 0; have hfz8_1 := fz_ BK280 1; have hcz9_0 := cz_ (.int .i64 a1_0) BK281 0; have hcz9_1 := cz_ (.slice A1_1 l1_1.length c1_1) BK281 1; have hfz9_0 := fz_ BK281 0; have hfz9_1 := fz_ BK281 1) | (go_at_call 19; (with_reducible refine (laws_nSame.calls k _ _ l0_1 _ _ l1_1 t282 _ ?side1 ?side2 ?side3 ?side4 A4.out).mono ?_); (case side1 => exact Cl_ (Kd.C_below HR0_1.out HB.out)); (case side2 => exact HC0_1.out); (case side3 => exact Cl_ (Kd.C_below HR1_1.out HB.out)); (case side4 => exact HC1_1.out); rintro e w' ⟨rfl, ⟨nd, rfl⟩⟩))
 go_ret
 exact ⟨re_, Bl_ HB⟩

/-! ### impl_ResultOf: function 20 -/
def impl_ResultOf.f (k : Nat) (a0_0 : Int) (l0_1 : List Int) : Option (List Int × Bool) := (impl_isLadder.f a0_0 l0_1).bind fun t284 => (if t284 = true then ((impl_result.f k a0_0 l0_1).bind fun t285 => (some (t285, true))) else (some (([] : List Int), false)))
theorem impl_ResultOf.mono : ∀ a0 a1 k, LeO (impl_ResultOf.f k a0 a1) (impl_ResultOf.f (k + 1) a0 a1) := by
 intro a0 a1 k
 unfold impl_ResultOf.f
 repeat' first
  | (with_reducible exact impl_result.mono _ _ _)
  | (with_reducible exact LeO.refl _)
  | (with_reducible exact LeO.none _)
  | (with_reducible refine LeO.ite ?_ ?_)
  | (with_reducible refine LeO.bind ?_ (fun _ => ?_))
  | exact LeO.none _
  | refine LeO.ite ?_ ?_
  | refine LeO.bind ?_ (fun _ => ?_)
set_option maxHeartbeats 8000000 in
set_option maxRecDepth 100000 in
theorem impl_ResultOf.calls (k : Nat) (a0_0 : Int) (A0_1 : Option Addr) (c0_1 : Nat) (l0_1 : List Int) (r1 : List Int) (r2 : Bool) (w : World) (hr0_1 : Kd.C (Kd.int .i64) w A0_1 l0_1.length l0_1) (hc0_1 : l0_1.length ≤ c0_1) (h : impl_ResultOf.f k a0_0 l0_1 = some (r1, r2)) :
 Calls Tryz.prog 20 #[.agg #[.int .i64 a0_0, .slice A0_1 l0_1.length c0_1]] w fun e w' => ∃ v0_ : Value, e = .returned (.tuple #[v0_, .bool r2]) ∧ Kd.R (Kd.int .i64) 3 w' w.heap.size (fun _ => True) v0_ r1 ∧ Below w.heap.size w w' := by
 have hu38 := Tryz.underlying38
 have HR0_1 := a_ hr0_1
 have HC0_1 := a_ hc0_1
 clear hr0_1 hc0_1
 have HB := a_ (Below.refl w.heap.size w)
 have H : ((impl_isLadder.f a0_0 l0_1).bind fun t284 => (if t284 = true then ((impl_result.f k a0_0 l0_1).bind fun t285 => (some (t285, true))) else (some (([] : List Int), false)))) = some (r1, r2) := h
 clear h
 obtain ⟨t284, A2, H⟩ := ob_ H
 (try dsimp only at H)
 by_cases c3 : t284 = true
 rotate_left
 ·replace c3 := Bool.eq_false_iff.mpr c3
  subst c3
  rw [if_neg (show ¬ (false = true) by decide)] at H
  simp only [Option.some.injEq, Prod.mk.injEq] at H
  obtain ⟨rfl, rfl⟩ := H
  go_enter Tryz.func20, Tryz.ntmps20
  go_wp2_with (first | ((with_reducible refine gate_dst (N := 1) rfl ?_); refine bx_ #[.int .i64 a0_0, .slice A0_1 l0_1.length c0_1] 38 ?_ 1; intro gb283 hg w10 hbox hb; have BK283 := a_ (hbox); have GW283 := gw_ HB hg; have GE283 := gw_ HB hg; replace HB := Bs_ HB hb; clear hb hbox hg; have hcz11_0 := cz_ (.int .i64 a0_0) BK283 0; have hcz11_1 := cz_ (.slice A0_1 l0_1.length c0_1) BK283 1; have hfz11_0 := fz_ BK283 0; have hfz11_1 := fz_ BK283 1) | ((with_reducible refine gate_callee (f := 44) rfl ?_); refine gm_ (some 5) Tryz.func44 #[.agg #[.int .i64 a0_0, .slice A0_1 l0_1.length c0_1]] rfl ?_; (with_reducible refine (impl_isLadder.calls a0_0 _ _ l0_1 false _ ?side1 ?side2 A2.out).mono ?_); (case side1 => exact Cl_ (Kd.C_below HR0_1.out HB.out)); (case side2 => exact HC0_1.out); rintro e w12 ⟨rfl, hb⟩; refine ⟨_, rfl, ?_⟩; replace BK283 := blkB_ BK283 hb; replace HB := Bs_ HB hb; (try clear hb); (try clear hb2); (try clear hk); (try clear hi)))
  go_ret2
  exact ⟨_, re_, by first | exact Kd.R_nil _ _ _ _ _ | exact Kd.N_nil _ _ _ _ _ | exact Kd.V_nil _ _ _ _ _ | exact Kd.Q_nil _ _ _ _ _ | exact Kd.S_nil _ _ _ _ _, Bl_ HB⟩
 subst c3
 rw [if_pos rfl] at H
 obtain ⟨t285, A4, H⟩ := ob_ H
 (try dsimp only at H)
 simp only [Option.some.injEq, Prod.mk.injEq] at H
 obtain ⟨rfl, rfl⟩ := H
 go_enter Tryz.func20, Tryz.ntmps20
 go_wp2_with (first | ((with_reducible refine gate_dst (N := 1) rfl ?_); refine bx_ #[.int .i64 a0_0, .slice A0_1 l0_1.length c0_1] 38 ?_ 1; intro gb283 hg w5 hbox hb; have BK283 := a_ (hbox); have GW283 := gw_ HB hg; have GE283 := gw_ HB hg; replace HB := Bs_ HB hb; clear hb hbox hg; have hcz6_0 := cz_ (.int .i64 a0_0) BK283 0; have hcz6_1 := cz_ (.slice A0_1 l0_1.length c0_1) BK283 1; have hfz6_0 := fz_ BK283 0; have hfz6_1 := fz_ BK283 1) | ((with_reducible refine gate_callee (f := 44) rfl ?_); refine gm_ (some 5) Tryz.func44 #[.agg #[.int .i64 a0_0, .slice A0_1 l0_1.length c0_1]] rfl ?_; (with_reducible refine (impl_isLadder.calls a0_0 _ _ l0_1 true _ ?side1 ?side2 A2.out).mono ?_); (case side1 => exact Cl_ (Kd.C_below HR0_1.out HB.out)); (case side2 => exact HC0_1.out); rintro e w7 ⟨rfl, hb⟩; refine ⟨_, rfl, ?_⟩; replace BK283 := blkB_ BK283 hb; replace HB := Bs_ HB hb; (try clear hb); (try clear hb2); (try clear hk); (try clear hi); have hcz8_0 := cz_ (.int .i64 a0_0) BK283 0; have hcz8_1 := cz_ (.slice A0_1 l0_1.length c0_1) BK283 1; have hfz8_0 := fz_ BK283 0; have hfz8_1 := fz_ BK283 1) | ((with_reducible refine gate_callee (f := 42) rfl ?_); refine gm_ (some 11) Tryz.func42 #[.int .i64 a0_0, .slice A0_1 l0_1.length c0_1] rfl ?_; (with_reducible refine (impl_result.calls k a0_0 _ _ l0_1 t285 _ ?side1 ?side2 A4.out).mono ?_); (case side1 => exact Cl_ (Kd.C_below HR0_1.out HB.out)); (case side2 => exact HC0_1.out); rintro e w9 ⟨v286, rfl, ho0, hb⟩; refine ⟨_, rfl, ?_⟩; have HO287 := a_ (Kd.R_lower ho0 (below_size (Bl_ HB))); replace BK283 := blkB_ BK283 hb; replace HB := Bs_ HB hb; (try clear hb); (try clear hb2); (try clear hk); (try clear hi); (try clear ho0)))
 go_ret2
 exact ⟨_, re_, by (with_reducible repeat (first | apply Kd.R_alloc | apply Kd.R_drewN | apply Kd.R_drew)); exact HO287.out, Bl_ HB⟩

/-! ### spec_DrawCountDepths: function 21 -/
def spec_DrawCountDepths.f (l0 : List Int) : Option (Int) := (spec_l1Cur_among.f l0 0 0 (([2, 3, 4, 5, 3, 4, 6, 1, 7] : List Int))).bind fun bt292 => (some bt292.1)
set_option maxHeartbeats 8000000 in
set_option maxRecDepth 100000 in
theorem spec_DrawCountDepths.calls (A0 : Option Addr) (c0 : Nat) (l0 : List Int) (r : Int) (w : World) (hr0 : Kd.C (Kd.int .u8) w A0 l0.length l0) (hc0 : l0.length ≤ c0) (h : spec_DrawCountDepths.f l0 = some r) :
 Calls Tryz.prog 21 #[.slice A0 l0.length c0] w fun e w' => e = .returned (.int .i64 r) ∧ Below w.heap.size w w' := by
 have hu56 := Tryz.underlying56
 have HR0 := a_ hr0
 have HC0 := a_ hc0
 clear hr0 hc0
 have HB := a_ (Below.refl w.heap.size w)
 have H : ((spec_l1Cur_among.f l0 0 0 (([2, 3, 4, 5, 3, 4, 6, 1, 7] : List Int))).bind fun bt292 => (some bt292.1)) = some r := h
 clear h
 obtain ⟨y289, hy289⟩ : ∃ y_ : List Int, y_ = (([2, 3, 4, 5, 3, 4, 6, 1, 7] : List Int)) := ⟨_, rfl⟩
 replace H : ((spec_l1Cur_among.f l0 0 0 y289).bind fun bt292 => (some bt292.1)) = some r := by first | (rw [hy289]; with_reducible exact H) | (have H2_ := (Option.bind_some _ _).symm.trans H; rw [hy289]; with_reducible exact H2_) | (have H2_ := (Option.bind_some _ _).symm.trans H; with_reducible exact H2_) | with_reducible exact H | (rw [hy289]; exact H) | exact H
 have Ny289 := a_ hy289
 clear hy289
 obtain ⟨⟨t292, t293, t294⟩, A2, H⟩ := ob_ H
 (try dsimp only at H)
 obtain rfl := Option.some.inj H
 go_enter Tryz.func21, Tryz.ntmps21
 go_wp2_with (first | ((with_reducible refine gate_dst (N := 6) rfl ?_); refine bx_ #[.slice A0 l0.length c0, .int .i64 0, .int .u64 0] 56 ?_ 6; intro gb288 hg w3 hbox hb; have HI288 := a_ ((⟨_, _, hbox, (by rw [hg]; exact (below_size (Bl_ HB)) : w.heap.size ≤ gb288), HR0.out⟩ : IsS56 w w3 gb288 l0 0 0)); have GW288 := gw_ HB hg; have GE288 := gw_ HB hg; replace HB := Bs_ HB hb; clear hb hbox hg) | ((with_reducible refine gate_dst (N := 8) rfl ?_); refine Kd.R_lit (Kd.int .i64) _ 3 ?hg (N := 8) ?hd (xs := ([2, 3, 4, 5, 3, 4, 6, 1, 7] : List Int)) (inner := [.int .i64 2, .int .i64 3, .int .i64 4, .int .i64 5, .int .i64 3, .int .i64 4, .int .i64 6, .int .i64 1, .int .i64 7]) (ok := fun _ => True) (okp := fun _ => True) ?hr ?hp (fun _ hk => hk) trivial (Below.refl _ _) (Nat.le_refl _) (by simp) ?_; (case hd => rfl); (case hg => rfl); (case hr => first | (go_simp; done) | (go_simp; rfl)); (case hp => exact (Reps.one (show Kd.M (Kd.int .i64) _ _ _ 2 [.int .i64 2] from rfl) (Reps.one (show Kd.M (Kd.int .i64) _ _ _ 3 [.int .i64 3] from rfl) (Reps.one (show Kd.M (Kd.int .i64) _ _ _ 4 [.int .i64 4] from rfl) (Reps.one (show Kd.M (Kd.int .i64) _ _ _ 5 [.int .i64 5] from rfl) (Reps.one (show Kd.M (Kd.int .i64) _ _ _ 3 [.int .i64 3] from rfl) (Reps.one (show Kd.M (Kd.int .i64) _ _ _ 4 [.int .i64 4] from rfl) (Reps.one (show Kd.M (Kd.int .i64) _ _ _ 6 [.int .i64 6] from rfl) (Reps.one (show Kd.M (Kd.int .i64) _ _ _ 1 [.int .i64 1] from rfl) (Reps.one (show Kd.M (Kd.int .i64) _ _ _ 7 [.int .i64 7] from rfl) (Reps.none _ _))))))))))); intro v290 w4 ho5 hb hg_ hnew_; clear hg_ hnew_; (first | rw [← Ny289.out] at ho5 | (simp only [Int.reduceToNat] at ho5; rw [← Ny289.out] at ho5)); have HO291 := a_ (Kd.R_lower ho5 (below_size (by repeat (first | (with_reducible first | exact HB.out | apply below_alloc | apply pw_below_drewN | apply below_drew1 | refine below_set ?_ (IsS56.ge HI288.out)) | exact HB.out)))); replace HB := a_ (below_step (by repeat (first | (with_reducible first | exact HB.out | apply below_alloc | apply pw_below_drewN | apply below_drew1 | refine below_set ?_ (IsS56.ge HI288.out)) | exact HB.out)) hb); replace HI288 := a_ (IsS56.below (by repeat (first | (with_reducible first | exact HI288.out | apply IsS56.alloc | apply IsS56.drewN | apply IsS56.drew | apply IsS56.set_1 | apply IsS56.set_2) | exact HI288.out)) hb); clear hb ho5; obtain ⟨Ao6, co6, eo6⟩ := Kd.R_slice HO291.out; subst eo6) | ((with_reducible refine gate_callee (f := 31) rfl ?_); refine gm_ (some 9) Tryz.func31 #[.pointer (some ⟨gb288, 0, none⟩), .slice Ao6 y289.length co6] rfl ?_; (with_reducible refine (spec_l1Cur_among.calls gb288 l0 0 0 _ _ y289 t292 t293 t294 w _ ?side1 ?side2 ?side3 ?side4 ?side5 A2.out).mono ?_); (case side1 => repeat (first | (with_reducible first | exact HI288.out | apply IsS56.alloc | apply IsS56.drewN | apply IsS56.drew | apply IsS56.set_1 | apply IsS56.set_2) | exact HI288.out)); (case side2 => repeat (first | (with_reducible first | exact HB.out | apply below_alloc | apply pw_below_drewN | apply below_drew1 | refine below_set ?_ (IsS56.ge HI288.out)) | exact HB.out)); (case side3 => exact Cl_ (Kd.R_reads' HO291.out).2.2); (case side4 => exact (Kd.R_reads' HO291.out).2.1); (case side5 => exact far_slice (IsS56.own_ne HI288.out HO291.out (by decide))); rintro e w7 ⟨rfl, hi, hb, hk⟩; refine ⟨_, rfl, ?_⟩; replace HO291 := a_ (Kd.R_mono (Kd.R_keep (IsS56.apart (show IsS56 w _ gb288 l0 0 0 from by repeat (first | (with_reducible first | exact HI288.out | apply IsS56.alloc | apply IsS56.drewN | apply IsS56.drew | apply IsS56.set_1 | apply IsS56.set_2) | exact HI288.out)) (Rl_ HO291.out) (by decide)) hk (fun _ h => h.2)) (fun _ h => h.1)); replace HB := a_ (hb); replace HI288 := a_ (hi); (try clear hb); (try clear hb2); (try clear hk); (try clear hi)))
 go_ret
 exact ⟨re_, by repeat (first | (with_reducible first | exact HB.out | apply below_alloc | apply pw_below_drewN | apply below_drew1 | refine below_set ?_ (IsS56.ge HI288.out)) | exact HB.out)⟩

/-! ### impl_identity: function 63 -/
def impl_identity.l0 : Nat → List Int → Int → Int → Option (List Int)
 | 0, _, _, _ => none
 | k + 1, x3, x6, x7 => if x7 < x6 then (if x3.length < 17592186044416 then (impl_identity.l0 k (x3 ++ [x7]) x6 (wrap64 (x7 + 1))) else (none)) else (some x3)
def impl_identity.f (k : Nat) (a0 : Int) : Option (List Int) := impl_identity.l0 k (([] : List Int)) a0 0
theorem impl_identity.mono_l : ∀ k, (∀ y0 y1 y2, LeO (impl_identity.l0 k y0 y1 y2) (impl_identity.l0 (k + 1) y0 y1 y2))
 | 0 => fun _ _ _ r h => by simp [impl_identity.l0] at h
 | k + 1 => by
  have ih0 := impl_identity.mono_l k
  ·intro y0 y1 y2
   unfold impl_identity.l0
   repeat' first
   | (with_reducible exact ih0 _ _ _)
   | (with_reducible exact LeO.refl _)
   | (with_reducible exact LeO.none _)
   | (with_reducible refine LeO.ite ?_ ?_)
   | (with_reducible refine LeO.bind ?_ (fun _ => ?_))
   | exact LeO.none _
   | refine LeO.ite ?_ ?_
   | refine LeO.bind ?_ (fun _ => ?_)
theorem impl_identity.mono : ∀ a0 k, LeO (impl_identity.f k a0) (impl_identity.f (k + 1) a0) := by
 intro a0 k
 have ih0 := impl_identity.mono_l k
 unfold impl_identity.f
 repeat' first
  | (with_reducible exact ih0 _ _ _)
  | (with_reducible exact LeO.refl _)
  | (with_reducible exact LeO.none _)
  | (with_reducible refine LeO.ite ?_ ?_)
  | (with_reducible refine LeO.bind ?_ (fun _ => ?_))
  | exact LeO.none _
  | refine LeO.ite ?_ ?_
  | refine LeO.bind ?_ (fun _ => ?_)
set_option maxHeartbeats 8000000 in
set_option maxRecDepth 100000 in
theorem impl_identity.calls (k : Nat) (a0 : Int) (r : List Int) (w : World) (h : impl_identity.f k a0 = some r) :
 Calls Tryz.prog 63 #[.int .i64 a0] w fun e w' => ∃ v0_ : Value, e = .returned (v0_) ∧ Kd.R (Kd.int .i64) 3 w' w.heap.size (fun _ => True) v0_ r ∧ Below w.heap.size w w' := by
 have HB := a_ (Below.refl w.heap.size w)
 have H : (impl_identity.l0 k (([] : List Int)) a0 0) = some r := h
 clear h
 obtain ⟨y295, hy295⟩ : ∃ y_ : List Int, y_ = (([] : List Int)) := ⟨_, rfl⟩
 replace H : (impl_identity.l0 k y295 a0 0) = some r := by first | (rw [hy295]; with_reducible exact H) | (have H2_ := (Option.bind_some _ _).symm.trans H; rw [hy295]; with_reducible exact H2_) | (have H2_ := (Option.bind_some _ _).symm.trans H; with_reducible exact H2_) | with_reducible exact H | (rw [hy295]; exact H) | exact H
 have Ny295 := a_ hy295
 clear hy295
 have H' := a_ H
 clear H
 go_enter Tryz.func63, Tryz.ntmps63
 go_wp2_with (first | ((with_reducible refine gate_dst (N := 5) rfl ?_); refine Kd.R_lit (Kd.int .i64) _ 3 ?hg (N := 5) ?hd (xs := ([] : List Int)) (inner := []) (ok := fun _ => True) (okp := fun _ => True) ?hr ?hp (fun _ hk => hk) trivial (Below.refl _ _) (Nat.le_refl _) (by simp) ?_; (case hd => rfl); (case hg => rfl); (case hr => first | (go_simp; done) | (go_simp; rfl)); (case hp => exact (Reps.none _ _)); intro v296 w2 ho3 hb hg_ hnew_; clear hg_ hnew_; (first | rw [← Ny295.out] at ho3 | (simp only [Int.reduceToNat] at ho3; rw [← Ny295.out] at ho3)); have HO297 := a_ (Kd.R_lower ho3 (below_size (Bl_ HB))); replace HB := Bs_ HB hb; clear hb ho3))
 go_loopg [3, 7] k (fun kq v3 v7 w' => ∃ (x3_1 : List Int) (x7_1 : Int), v7 = .int .i64 x7_1 ∧ Aside0 (impl_identity.l0 kq x3_1 a0 x7_1 = some r) ∧ Aside0 (kq ≤ k) ∧ Aside0 (Kd.R (Kd.int .i64) 3 w' w.heap.size (fun _ => True) v3 x3_1) ∧ Aside0 (Below w.heap.size w w'))
 case atStart => exact ⟨(y295), (0), rs_, H', ⟨Nat.le_refl _⟩, ⟨Rl_ HO297.out⟩, ⟨Bl_ HB⟩⟩
 case round =>
  clear H'
  try clear p2
  obtain ⟨x3_1, x7_1, rfl, HA, HK1, HO_3, HB⟩ := hrel
  cases gk with
  | zero => exact absurd HA.out (by simp [impl_identity.l0])
  | succ k1 =>
   have H := HA.out
   clear HA
   simp only [impl_identity.l0] at H
   by_cases c4 : x7_1 < a0
   rotate_left
   ·rw [if_neg c4] at H
    have c4b0 : decide (x7_1 < a0) = false := decide_eq_false c4
    clear c4
    obtain rfl := Option.some.inj H
    go_wp2
    go_ret
    exact ⟨_, re_, by (with_reducible repeat (first | apply Kd.R_alloc | apply Kd.R_drewN | apply Kd.R_drew)); exact HO_3.out, Bl_ HB⟩
   rw [if_pos c4] at H
   have c4b0 : decide (x7_1 < a0) = true := decide_eq_true c4
   clear c4
   by_cases c5 : x3_1.length < 17592186044416
   rotate_left
   ·rw [if_neg c5] at H
    cases H
   rw [if_pos c5] at H
   have LMc5 := a_ c5
   clear c5
   obtain ⟨y298, hy298⟩ : ∃ y_ : List Int, y_ = (x3_1 ++ [x7_1]) := ⟨_, rfl⟩
   replace H : (impl_identity.l0 k1 y298 a0 (wrap64 (x7_1 + 1))) = some r := by first | (rw [hy298]; with_reducible exact H) | (have H2_ := (Option.bind_some _ _).symm.trans H; rw [hy298]; with_reducible exact H2_) | (have H2_ := (Option.bind_some _ _).symm.trans H; with_reducible exact H2_) | with_reducible exact H | (rw [hy298]; exact H) | exact H
   have Ny298 := a_ hy298
   clear hy298
   have H' := a_ H
   clear H
   go_wp2_with (first | ((with_reducible refine gate_builtin (b := .append) (xs := #[.tmp 10, .tmp 12]) rfl ?_); at_builtin; refine Kd.R_append (Kd.int .i64) (w0 := w) w.heap.size rfl (.tmp 10) (.tmp 12) 31 3 (.int .i64 0) 8 rfl Tryz.underlying31 info3 rfl (by decide) (by omega) u3 x3_1 x7_1 [.int .i64 x7_1] (fun _ => True) (fun _ => False) rfl rfl ?aP (fun _ hk => hk.elim) ?aF ?aO ?aB ?aS ?aL ?_; (case aP => exact rfl); (case aB => exact (Bl_ HB)); (case aF => exact (fun _ _ => trivial)); (case aO => exact (Rl_ HO_3.out)); (case aS => exact (below_size (Bl_ HB))); (case aL => have := LMc5.out; omega); intro v299 w6 ho hb hg hat; rw [← Ny298.out] at ho; replace HB := a_ (hb); have HO300 := a_ (ho); clear HO_3; clear ho hb hg hat))
   go_roundg k1
   case measure => have := HK1.out; omega
   case rel => exact ⟨(y298), (wrap64 (x7_1 + 1)), rs_, H', ⟨by have := HK1.out; omega⟩, ⟨Rl_ HO300.out⟩, ⟨Bl_ HB⟩⟩

/-! ### impl_orderKey: function 64 -/
def impl_orderKey.l0 : Nat → List Int → List Int → Int → Int → Option (ByteArray)
 | 0, _, _, _, _ => none
 | k + 1, x3, x7, x8, x9 => if x9 < x8 then (if 0 ≤ x9 then (if x9 < (x7.length : Int) then (if x3.length < 140737488355328 then (impl_orderKey.l0 k (x3 ++ [(wrap64 (48 + (rd x7 x9))) % 256]) x7 x8 (wrap64 (x9 + 1))) else (none)) else (none)) else (none)) else (some (strOfNums x3))
def impl_orderKey.f (k : Nat) (l0 : List Int) : Option (ByteArray) := impl_orderKey.l0 k (([] : List Int)) l0 (l0.length : Int) 0
theorem impl_orderKey.mono_l : ∀ k, (∀ y0 y1 y2 y3, LeO (impl_orderKey.l0 k y0 y1 y2 y3) (impl_orderKey.l0 (k + 1) y0 y1 y2 y3))
 | 0 => fun _ _ _ _ r h => by simp [impl_orderKey.l0] at h
 | k + 1 => by
  have ih0 := impl_orderKey.mono_l k
  ·intro y0 y1 y2 y3
   unfold impl_orderKey.l0
   repeat' first
   | (with_reducible exact ih0 _ _ _ _)
   | (with_reducible exact LeO.refl _)
   | (with_reducible exact LeO.none _)
   | (with_reducible refine LeO.ite ?_ ?_)
   | (with_reducible refine LeO.bind ?_ (fun _ => ?_))
   | exact LeO.none _
   | refine LeO.ite ?_ ?_
   | refine LeO.bind ?_ (fun _ => ?_)
theorem impl_orderKey.mono : ∀ a0 k, LeO (impl_orderKey.f k a0) (impl_orderKey.f (k + 1) a0) := by
 intro a0 k
 have ih0 := impl_orderKey.mono_l k
 unfold impl_orderKey.f
 repeat' first
  | (with_reducible exact ih0 _ _ _ _)
  | (with_reducible exact LeO.refl _)
  | (with_reducible exact LeO.none _)
  | (with_reducible refine LeO.ite ?_ ?_)
  | (with_reducible refine LeO.bind ?_ (fun _ => ?_))
  | exact LeO.none _
  | refine LeO.ite ?_ ?_
  | refine LeO.bind ?_ (fun _ => ?_)
set_option maxHeartbeats 8000000 in
set_option maxRecDepth 100000 in
theorem impl_orderKey.calls (k : Nat) (A0 : Option Addr) (c0 : Nat) (l0 : List Int) (r : ByteArray) (w : World) (hr0 : Kd.C (Kd.int .i64) w A0 l0.length l0) (hc0 : l0.length ≤ c0) (h : impl_orderKey.f k l0 = some r) :
 Calls Tryz.prog 64 #[.slice A0 l0.length c0] w fun e w' => e = .returned (.string r) ∧ Below w.heap.size w w' := by
 have HR0 := a_ hr0
 have HC0 := a_ hc0
 clear hr0 hc0
 have HB := a_ (Below.refl w.heap.size w)
 have H : (impl_orderKey.l0 k (([] : List Int)) l0 (l0.length : Int) 0) = some r := h
 clear h
 obtain ⟨y301, hy301⟩ : ∃ y_ : List Int, y_ = (([] : List Int)) := ⟨_, rfl⟩
 replace H : (impl_orderKey.l0 k y301 l0 (l0.length : Int) 0) = some r := by first | (rw [hy301]; with_reducible exact H) | (have H2_ := (Option.bind_some _ _).symm.trans H; rw [hy301]; with_reducible exact H2_) | (have H2_ := (Option.bind_some _ _).symm.trans H; with_reducible exact H2_) | with_reducible exact H | (rw [hy301]; exact H) | exact H
 have Ny301 := a_ hy301
 clear hy301
 have H' := a_ H
 clear H
 go_enter Tryz.func64, Tryz.ntmps64
 go_wp2_with (first | ((with_reducible refine gate_dst (N := 6) rfl ?_); refine Kd.R_lit (Kd.int .u8) _ 5 ?hg (N := 6) ?hd (xs := ([] : List Int)) (inner := []) (ok := fun _ => True) (okp := fun _ => True) ?hr ?hp (fun _ hk => hk) trivial (Below.refl _ _) (Nat.le_refl _) (by simp) ?_; (case hd => rfl); (case hg => rfl); (case hr => first | (go_simp; done) | (go_simp; rfl)); (case hp => exact (Reps.none _ _)); intro v302 w2 ho3 hb hg_ hnew_; clear hg_ hnew_; (first | rw [← Ny301.out] at ho3 | (simp only [Int.reduceToNat] at ho3; rw [← Ny301.out] at ho3)); have HO303 := a_ (Kd.R_lower ho3 (below_size (Bl_ HB))); replace HB := Bs_ HB hb; clear hb ho3))
 go_loopg [3, 9] k (fun kq v3 v9 w' => ∃ (x3_1 : List Int) (x9_1 : Int), v9 = .int .i64 x9_1 ∧ Aside0 (impl_orderKey.l0 kq x3_1 l0 (l0.length : Int) x9_1 = some r) ∧ Aside0 (kq ≤ k) ∧ Aside0 (Kd.R (Kd.int .u8) 5 w' w.heap.size (fun _ => True) v3 x3_1) ∧ Aside0 (Below w.heap.size w w'))
 case atStart => exact ⟨(y301), (0), rs_, H', ⟨Nat.le_refl _⟩, ⟨Rl_ HO303.out⟩, ⟨Bl_ HB⟩⟩
 case round =>
  clear H'
  try clear p2
  obtain ⟨x3_1, x9_1, rfl, HA, HK1, HO_3, HB⟩ := hrel
  cases gk with
  | zero => exact absurd HA.out (by simp [impl_orderKey.l0])
  | succ k1 =>
   have H := HA.out
   clear HA
   simp only [impl_orderKey.l0] at H
   by_cases c4 : x9_1 < (l0.length : Int)
   rotate_left
   ·rw [if_neg c4] at H
    have c4b0 : decide (x9_1 < (l0.length : Int)) = false := decide_eq_false c4
    clear c4
    obtain rfl := Option.some.inj H
    have hcv9 := own_string (P := Tryz.prog) Tryz.underlying22 Tryz.underlying5 Tryz.underlying9 (Kd.own_of_R HO_3.out)
    go_wp2
    go_ret
    exact ⟨re_, Bl_ HB⟩
   rw [if_pos c4] at H
   have c4b0 : decide (x9_1 < (l0.length : Int)) = true := decide_eq_true c4
   clear c4
   by_cases c5 : 0 ≤ x9_1
   rotate_left
   ·rw [if_neg c5] at H
    cases H
   rw [if_pos c5] at H
   have c5b0 : decide (0 ≤ x9_1) = true := decide_eq_true c5
   clear c5
   by_cases c6 : x9_1 < (l0.length : Int)
   rotate_left
   ·rw [if_neg c6] at H
    cases H
   rw [if_pos c6] at H
   have c6b0 : decide (x9_1 < (l0.length : Int)) = true := decide_eq_true c6
   clear c6
   by_cases c7 : x3_1.length < 140737488355328
   rotate_left
   ·rw [if_neg c7] at H
    cases H
   rw [if_pos c7] at H
   have LMc7 := a_ c7
   clear c7
   obtain ⟨y305, hy305⟩ : ∃ y_ : List Int, y_ = (x3_1 ++ [(wrap64 (48 + (rd l0 x9_1))) % 256]) := ⟨_, rfl⟩
   replace H : (impl_orderKey.l0 k1 y305 l0 (l0.length : Int) (wrap64 (x9_1 + 1))) = some r := by first | (rw [hy305]; with_reducible exact H) | (have H2_ := (Option.bind_some _ _).symm.trans H; rw [hy305]; with_reducible exact H2_) | (have H2_ := (Option.bind_some _ _).symm.trans H; with_reducible exact H2_) | with_reducible exact H | (rw [hy305]; exact H) | exact H
   have Ny305 := a_ hy305
   clear hy305
   have H' := a_ H
   clear H
   have p304 : 0 ≤ (x9_1 : Int) := od_
   have q304 : x9_1 < (l0.length : Int) := od_
   obtain ⟨ad304, e304, hx304_0⟩ := Kd.at_int HR0.out x9_1 p304 q304
   cases e304
   replace hx304_0 := (HB.out.cell (World.block_lt_of_cell? w _ hx304_0)).trans hx304_0
   replace p304 := eq_true p304
   replace q304 := eq_true q304
   go_wp2_with (first | ((with_reducible refine gate_builtin (b := .append) (xs := #[.tmp 13, .tmp 17]) rfl ?_); at_builtin; refine Kd.R_append (Kd.int .u8) (w0 := w) w.heap.size rfl (.tmp 13) (.tmp 17) 22 5 (.int .u8 0) 1 rfl Tryz.underlying22 info5 rfl (by decide) (by omega) u3 x3_1 ((wrap64 (48 + (rd l0 x9_1))) % 256) [.int .u8 ((wrap64 (48 + (rd l0 x9_1))) % 256)] (fun _ => True) (fun _ => False) rfl rfl ?aP (fun _ hk => hk.elim) ?aF ?aO ?aB ?aS ?aL ?_; (case aP => exact rfl); (case aB => exact (Bl_ HB)); (case aF => exact (fun _ _ => trivial)); (case aO => exact (Rl_ HO_3.out)); (case aS => exact (below_size (Bl_ HB))); (case aL => have := LMc7.out; omega); intro v306 w8 ho hb hg hat; rw [← Ny305.out] at ho; replace HB := a_ (hb); have HO307 := a_ (ho); clear HO_3; clear ho hb hg hat))
   go_roundg k1
   case measure => have := HK1.out; omega
   case rel => exact ⟨(y305), (wrap64 (x9_1 + 1)), rs_, H', ⟨by have := HK1.out; omega⟩, ⟨Rl_ HO307.out⟩, ⟨Bl_ HB⟩⟩

/-! ### impl_exchanged: function 77 -/
def impl_exchanged.f (l0 : List Int) (a1 : Int) : Option (List Int) := (slices_Clone_int_int.f l0).bind fun t308 => (if 0 ≤ (wrap64 (a1 + 1)) then (if (wrap64 (a1 + 1)) < (t308.length : Int) then (if 0 ≤ a1 then (if a1 < (t308.length : Int) then (some ((t308.set (a1 : Int).toNat (rd t308 (wrap64 (a1 + 1)))).set ((wrap64 (a1 + 1)) : Int).toNat (rd t308 a1))) else (none)) else (none)) else (none)) else (none))
def impl_exchanged.T2 : Bool × List (List Nat × List Nat) := (true, [([], []), ([], []), ([], []), ([], []), ([3], [3]), ([], []), ([], []), ([6], [6]), ([5, 7], [5, 7]), ([8], [8]), ([], []), ([], []), ([10, 11], [10, 11]), ([12], [12]), ([0, 1, 0, 1, 5, 6, 7, 8, 9, 13], [0, 1]), ([14, 9, 0, 1, 5, 6, 7, 8, 9, 13], [9, 14]), ([2, 4, 0, 1, 2, 3, 4, 5, 6, 7, 8, 9, 10, 11, 12, 13, 14, 15], [2, 4]), ([16, 13, 15, 0, 1, 2, 3, 4, 5, 6, 7, 8, 9, 10, 11, 12, 13, 14, 15], [13, 16])])
def impl_exchanged.B2 : List Nat := [0, 0, 0, 0, 8, 0, 0, 64, 224, 480, 0, 0, 3072, 7168, 16355, 32739, 65535, 131071]
theorem impl_exchanged.tab2 : rtab .any (opsOf Tryz.f77 2) = impl_exchanged.T2 := by kernel_rfl
theorem impl_exchanged.bits2 : waitsOk impl_exchanged.T2.2 impl_exchanged.B2 = true := by kernel_rfl
set_option maxHeartbeats 8000000 in
set_option maxRecDepth 100000 in
theorem impl_exchanged.calls (A0 : Option Addr) (c0 : Nat) (l0 : List Int) (a1 : Int) (r : List Int) (w : World) (hr0 : Kd.C (Kd.int .i64) w A0 l0.length l0) (hc0 : l0.length ≤ c0) (h : impl_exchanged.f l0 a1 = some r) :
 Calls Tryz.prog 77 #[.slice A0 l0.length c0, .int .i64 a1] w fun e w' => ∃ v0_ : Value, e = .returned (v0_) ∧ Kd.R (Kd.int .i64) 3 w' w.heap.size (fun _ => True) v0_ r ∧ Below w.heap.size w w' := by
 have HR0 := a_ hr0
 have HC0 := a_ hc0
 clear hr0 hc0
 have HB := a_ (Below.refl w.heap.size w)
 have H : ((slices_Clone_int_int.f l0).bind fun t308 => (if 0 ≤ (wrap64 (a1 + 1)) then (if (wrap64 (a1 + 1)) < (t308.length : Int) then (if 0 ≤ a1 then (if a1 < (t308.length : Int) then (some ((t308.set (a1 : Int).toNat (rd t308 (wrap64 (a1 + 1)))).set ((wrap64 (a1 + 1)) : Int).toNat (rd t308 a1))) else (none)) else (none)) else (none)) else (none))) = some r := h
 clear h
 obtain ⟨t308, A3, H⟩ := ob_ H
 (try dsimp only at H)
 obtain ⟨ji4, hji4⟩ : ∃ j_ : Int, (wrap64 (a1 + 1)) = j_ := ⟨_, rfl⟩
 replace H : (if 0 ≤ (ji4) then (if (ji4) < (t308.length : Int) then (if 0 ≤ a1 then (if a1 < (t308.length : Int) then (some ((t308.set (a1 : Int).toNat (rd t308 (ji4))).set ((ji4) : Int).toNat (rd t308 a1))) else (none)) else (none)) else (none)) else (none)) = some r := by first | (rw [hji4] at H; exact H) | (simp only [hji4] at H ⊢; exact H)
 (try rw [hji4] at A3)
 have hji4w : (IntKind.i64.wrap (a1 + 1)) = ji4 := (i64_w _).trans hji4
 by_cases c5 : 0 ≤ (ji4)
 rotate_left
 ·rw [if_neg c5] at H
  cases H
 rw [if_pos c5] at H
 have c5b0 : decide (0 ≤ (ji4)) = true := decide_eq_true c5
 clear c5
 by_cases c6 : (ji4) < (t308.length : Int)
 rotate_left
 ·rw [if_neg c6] at H
  cases H
 rw [if_pos c6] at H
 have c6b0 : decide ((ji4) < (t308.length : Int)) = true := decide_eq_true c6
 clear c6
 by_cases c7 : 0 ≤ a1
 rotate_left
 ·rw [if_neg c7] at H
  cases H
 rw [if_pos c7] at H
 have c7b0 : decide (0 ≤ a1) = true := decide_eq_true c7
 clear c7
 by_cases c8 : a1 < (t308.length : Int)
 rotate_left
 ·rw [if_neg c8] at H
  cases H
 rw [if_pos c8] at H
 have c8b0 : decide (a1 < (t308.length : Int)) = true := decide_eq_true c8
 clear c8
 obtain ⟨y313, hy313⟩ : ∃ y_ : List Int, y_ = (t308.set (a1 : Int).toNat (rd t308 (ji4))) := ⟨_, rfl⟩
 replace H : (some (y313.set ((ji4) : Int).toNat (rd t308 a1))) = some r := by first | (rw [hy313]; with_reducible exact H) | (have H2_ := (Option.bind_some _ _).symm.trans H; rw [hy313]; with_reducible exact H2_) | (have H2_ := (Option.bind_some _ _).symm.trans H; with_reducible exact H2_) | with_reducible exact H | (rw [hy313]; exact H) | exact H
 have Ny313 := a_ hy313
 clear hy313
 obtain ⟨y314, hy314⟩ : ∃ y_ : List Int, y_ = (y313.set ((ji4) : Int).toNat (rd t308 a1)) := ⟨_, rfl⟩
 replace H : (some y314) = some r := by first | (rw [hy314]; with_reducible exact H) | (have H2_ := (Option.bind_some _ _).symm.trans H; rw [hy314]; with_reducible exact H2_) | (have H2_ := (Option.bind_some _ _).symm.trans H; with_reducible exact H2_) | with_reducible exact H | (rw [hy314]; exact H) | exact H
 have Ny314 := a_ hy314
 clear hy314
 obtain rfl := Option.some.inj H
 go_enter Tryz.func77, Tryz.ntmps77
 try go_wp2_with (first | ((with_reducible refine gate_callee (f := 56) rfl ?_); refine gm_ (some 7) Tryz.func56 #[.slice A0 l0.length c0] rfl ?_; (with_reducible refine (slices_Clone_int_int.calls _ _ l0 t308 _ ?side1 ?side2 A3.out).mono ?_); (case side1 => repeat (first | exact HR0.out | (with_reducible refine Kd.C_alloc ?_ _) | (with_reducible refine Kd.C_drewN ?_ _) | (with_reducible refine Kd.C_drew ?_))); (case side2 => exact HC0.out); rintro e w11 ⟨v309, rfl, ho0, hb⟩; refine ⟨_, rfl, ?_⟩; have HO310 := a_ (Kd.R_lower ho0 (below_size (Bl_ HB))); replace HB := Bs_ HB hb; (try clear hb); (try clear hb2); (try clear hk); (try clear hi); (try clear ho0)))
 replace HO310 := a_ (Kd.R_drew HO310.out)
 replace HB := a_ (below_drew1 HB.out)
 obtain ⟨Ao13, co13, eo13⟩ := Kd.R_slice HO310.out
 (first | subst eo13 | (injection eo13 with f1_ f2_ f3_; have f4_ := f1_.symm; have f5_ := f3_.symm; clear f1_ f2_ f3_; subst f4_; subst f5_))
 have p311 : 0 ≤ ((ji4) : Int) := od_
 have q311 : (ji4) < (t308.length : Int) := od_
 obtain ⟨ad311, e311, hx311_0⟩ := Kd.at_int (Kd.R_reads' HO310.out).2.2 (ji4) p311 q311
 cases e311
 replace p311 := eq_true p311
 replace q311 := eq_true q311
 have p312 : 0 ≤ (a1 : Int) := od_
 have q312 : a1 < (t308.length : Int) := od_
 obtain ⟨ad312, e312, hx312_0⟩ := Kd.at_int (Kd.R_reads' HO310.out).2.2 a1 p312 q312
 obtain rfl : ad311 = ad312 := (by injection e312)
 replace p312 := eq_true p312
 replace q312 := eq_true q312
 have p9 : 0 ≤ (a1 : Int) := od_
 have q9 : (a1 : Int) < ((t308.length : Int) : Int) := od_
 obtain ⟨go9, co9, eo9, gb9, gl9, cl9, HG9⟩ := Kd.R_form HO310.out (by omega)
 (first | cases eo9 | (injection eo9 with ea_ en_ ec_; (first | subst ea_ | (injection ea_ with ea_; subst ea_)); subst ec_; clear en_))
 have GB9 := a_ gb9
 have GG9 := a_ HG9
 clear gb9 gl9 HG9
 (first | simp only [add_plain] at hx311_0 | skip)
 (first | simp only [add_plain] at hx312_0 | skip)
 obtain ⟨hx9_0, hf9_0⟩ := Kd.R_celln 0 HO310.out (a1 : Int) p9 q9
 replace p9 := eq_true p9
 replace q9 := eq_true q9
 have HP14 := Kd.R_putn HO310.out (a1 : Int) (rd t308 (ji4))
 rw [← Ny313.out] at HP14
 have HQ14 := a_ HP14
 clear HP14
 have p10 : 0 ≤ ((ji4) : Int) := od_
 have q10 : ((ji4) : Int) < ((t308.length : Int) : Int) := od_
 obtain ⟨hx10_0, hf10_0⟩ := Kd.R_celln 0 HQ14.out ((ji4) : Int) p10 q10
 replace p10 := eq_true p10
 replace q10 := eq_true q10
 have HP15 := Kd.R_putn HQ14.out ((ji4) : Int) (rd t308 a1)
 rw [← Ny314.out] at HP15
 have HQ15 := a_ HP15
 clear HP15
 refine start_ (n := 18) (S := fun w' => w'.cell? ⟨go9, ((ji4)).toNat, none⟩ = some (.int .i64 (rd t308 (ji4))) ∧ w'.cell? ⟨go9, (a1).toNat, none⟩ = some (.int .i64 (rd t308 a1))) (ds := [15, 17]) (fl_ 18 0) (by kernel_rfl) rfl rfl ⟨hx311_0, hx312_0⟩ (fun hHeld => ?_); refine with_tabW impl_exchanged.tab2 impl_exchanged.bits2 (fun HT_ HW_ => ?_)
 generalize w11.drew = w12 at HO310 HB GG9 HQ14 HQ15 hf10_0 hf9_0 hx10_0 hx311_0 hx312_0 hx9_0 hHeld ⊢
 refine pure_ (i := 0) (N := some 8) (v := ?_) (a' := ?_) (fl_ 18 1) rfl rfl (any_of HT_.out (by kernel_rfl)) (fun _ _ _ h => h) (Or.inl ⟨by rfl, ?_⟩) ?_ ?_
 rotate_left
 ·intro w'
  go_simp
  with_reducible rfl
 rotate_left
 ·simp only [Act.put, List.setIfInBounds_toArray, List.set_cons_zero, List.set_cons_succ, i64_w, i32_w]
  rfl
 refine pure_ (i := 1) (N := some 9) (v := ?_) (a' := ?_) (fl_ 18 2) rfl rfl (any_of HT_.out (by kernel_rfl)) (fun _ _ _ h => h) (Or.inl ⟨by rfl, ?_⟩) ?_ ?_
 rotate_left
 ·intro w'
  go_simp
  with_reducible rfl
 rotate_left
 ·simp only [Act.put, List.setIfInBounds_toArray, List.set_cons_zero, List.set_cons_succ, i64_w, i32_w]
  rfl
 refine pure_ (i := 2) (N := some 10) (v := ?_) (a' := ?_) (fl_ 18 3) rfl rfl (any_of HT_.out (by kernel_rfl)) (fun _ _ _ h => h) (Or.inl ⟨by rfl, ?_⟩) ?_ ?_
 rotate_left
 ·intro w'
  go_simp
  with_reducible rfl
 rotate_left
 ·simp only [Act.put, List.setIfInBounds_toArray, List.set_cons_zero, List.set_cons_succ, i64_w, i32_w]
  rfl
 refine pure_ (i := 3) (N := some 11) (v := ?_) (a' := ?_) (fl_ 18 4) rfl rfl (any_of HT_.out (by kernel_rfl)) (fun _ _ _ h => h) (Or.inl ⟨by rfl, ?_⟩) ?_ ?_
 rotate_left
 ·intro w'
  go_simp
  with_reducible rfl
 rotate_left
 ·simp only [Act.put, List.setIfInBounds_toArray, List.set_cons_zero, List.set_cons_succ, i64_w, i32_w]
  rfl
 refine pure_ (i := 4) (N := some 12) (v := ?_) (a' := ?_) (fl_ 18 5) rfl rfl (any_of HT_.out (by kernel_rfl)) (fun _ _ _ h => h) (Or.inl ⟨by rfl, ?_⟩) ?_ ?_
 rotate_left
 ·intro w'
  go_simp
  with_reducible rfl
 rotate_left
 ·simp only [Act.put, List.setIfInBounds_toArray, List.set_cons_zero, List.set_cons_succ, i64_w, i32_w]
  rfl
 refine pure_ (i := 5) (N := some 13) (v := ?_) (a' := ?_) (fl_ 18 6) rfl rfl (any_of HT_.out (by kernel_rfl)) (fun _ _ _ h => h) (Or.inl ⟨by rfl, ?_⟩) ?_ ?_
 rotate_left
 ·intro w'
  go_simp
  with_reducible rfl
 rotate_left
 ·simp only [Act.put, List.setIfInBounds_toArray, List.set_cons_zero, List.set_cons_succ, i64_w, i32_w]
  rfl
 refine pure_ (i := 6) (N := some 14) (v := ?_) (a' := ?_) (fl_ 18 7) rfl rfl (any_of HT_.out (by kernel_rfl)) (fun _ _ _ h => h) (Or.inl ⟨by rfl, ?_⟩) ?_ ?_
 rotate_left
 ·intro w'
  go_simp
  with_reducible rfl
 rotate_left
 ·simp only [Act.put, List.setIfInBounds_toArray, List.set_cons_zero, List.set_cons_succ, i64_w, i32_w]
  rfl
 refine pure_ (i := 7) (N := some 15) (v := ?_) (a' := ?_) (fl_ 18 8) rfl rfl (any_of HT_.out (by kernel_rfl)) (fun _ _ _ h => h) (Or.inl ⟨by rfl, ?_⟩) ?_ ?_
 rotate_left
 ·intro w'
  go_simp
  with_reducible rfl
 rotate_left
 ·simp only [Act.put, List.setIfInBounds_toArray, List.set_cons_zero, List.set_cons_succ, i64_w, i32_w]
  rfl
 refine pure_ (i := 8) (N := some 16) (v := ?_) (a' := ?_) (fl_ 18 9) rfl rfl (any_of HT_.out (by kernel_rfl)) (fun _ _ _ h => h) (Or.inl ⟨by rfl, ?_⟩) ?_ ?_
 rotate_left
 ·intro w'
  go_simp
  with_reducible rfl
 rotate_left
 ·simp only [Act.put, List.setIfInBounds_toArray, List.set_cons_zero, List.set_cons_succ, i64_w, i32_w]
  rfl
 refine pure_ (i := 10) (N := some 18) (v := ?_) (a' := ?_) #[true, true, true, true, true, true, true, true, true, false, true, false, false, false, false, false, false, false] rfl rfl (any_of HT_.out (by kernel_rfl)) (fun _ _ _ h => h) (Or.inl ⟨by rfl, ?_⟩) ?_ ?_
 rotate_left
 ·intro w'
  go_simp
  with_reducible rfl
 rotate_left
 ·simp only [Act.put, List.setIfInBounds_toArray, List.set_cons_zero, List.set_cons_succ, i64_w, i32_w]
  rfl
 refine pure_ (i := 11) (N := some 19) (v := ?_) (a' := ?_) #[true, true, true, true, true, true, true, true, true, false, true, true, false, false, false, false, false, false] rfl rfl (any_of HT_.out (by kernel_rfl)) (fun _ _ _ h => h) (Or.inl ⟨by rfl, ?_⟩) ?_ ?_
 rotate_left
 ·intro w'
  go_simp
  with_reducible rfl
 rotate_left
 ·simp only [Act.put, List.setIfInBounds_toArray, List.set_cons_zero, List.set_cons_succ, i64_w, i32_w]
  rfl
 refine pure_ (i := 12) (N := some 20) (v := ?_) (a' := ?_) #[true, true, true, true, true, true, true, true, true, false, true, true, true, false, false, false, false, false] rfl rfl (any_of HT_.out (by kernel_rfl)) (fun _ _ _ h => h) (Or.inl ⟨by rfl, ?_⟩) ?_ ?_
 rotate_left
 ·intro w'
  go_simp
  with_reducible rfl
 rotate_left
 ·simp only [Act.put, List.setIfInBounds_toArray, List.set_cons_zero, List.set_cons_succ, i64_w, i32_w]
  rfl
 refine take_ (i := 9) (N := some 17) (v := ?_) (a' := ?_) (fl_ 18 13) rfl rfl (take_ofW HT_.out HW_.out (by kernel_rfl)) (fun _ _ _ h => h) (Or.inl ⟨by rfl, ?_⟩) hHeld ?_ ?_
 rotate_left
 ·rintro w' ⟨s0, s1⟩
  go_simp
  with_reducible rfl
 rotate_left
 ·simp only [Act.put, List.setIfInBounds_toArray, List.set_cons_zero, List.set_cons_succ, i64_w, i32_w]
  rfl
 refine take_ (i := 13) (N := some 21) (v := ?_) (a' := ?_) (fl_ 18 14) rfl rfl (take_ofW HT_.out HW_.out (by kernel_rfl)) (fun _ _ _ h => h) (Or.inl ⟨by rfl, ?_⟩) hHeld ?_ ?_
 rotate_left
 ·rintro w' ⟨s0, s1⟩
  go_simp
  with_reducible rfl
 rotate_left
 ·simp only [Act.put, List.setIfInBounds_toArray, List.set_cons_zero, List.set_cons_succ, i64_w, i32_w]
  rfl
 refine pure_ (i := 14) (N := some 22) (v := ?_) (a' := ?_) (fl_ 18 15) rfl rfl (any_of HT_.out (by kernel_rfl)) (fun _ _ _ h => h) (Or.inl ⟨by rfl, ?_⟩) ?_ ?_
 rotate_left
 ·intro w'
  go_simp
  with_reducible rfl
 rotate_left
 ·simp only [Act.put, List.setIfInBounds_toArray, List.set_cons_zero, List.set_cons_succ, i64_w, i32_w]
  rfl
 refine last_ (i := 15) (N := none) (fl_ 18 16) rfl rfl (one_of HT_.out (by kernel_rfl)) (by decide) (fun K hK => ?_)
 refine skip_ (w1 := ?_) (by rfl) rfl ?_ ?_
 rotate_left
 ·go_simp
  rfl
 refine hK.out _ _ ?_
 clear hK K
 refine pure_ (i := 16) (N := some 23) (v := ?_) (a' := ?_) (fl_ 18 17) rfl rfl (any_of HT_.out (by kernel_rfl)) (fun _ _ _ h => h) (Or.inl ⟨by rfl, ?_⟩) ?_ ?_
 rotate_left
 ·intro w'
  go_simp
  with_reducible rfl
 rotate_left
 ·simp only [Act.put, List.setIfInBounds_toArray, List.set_cons_zero, List.set_cons_succ, i64_w, i32_w]
  rfl
 refine last_ (i := 17) (N := none) (fl_ 18 18) rfl rfl (one_of HT_.out (by kernel_rfl)) (by decide) (fun K hK => ?_)
 refine skip_ (w1 := ?_) (by rfl) rfl ?_ ?_
 rotate_left
 ·go_simp
  rfl
 refine hK.out _ _ ?_
 clear hK K
 refine done_ (done_of HT_.out (by kernel_rfl)) ?_
 try go_wp2
 go_ret
 exact ⟨_, by first | rfl | (simp [errW_none, errW_some] <;> rfl) | (simp only [← hji4]; first | rfl | (simp [errW_none, errW_some] <;> rfl)) | (simp [*, errW_none, errW_some] <;> rfl), by (with_reducible repeat (first | apply Kd.R_alloc | apply Kd.R_drewN | apply Kd.R_drew)); exact HQ15.out, Bl_ HB⟩

/-! ### impl_laid: function 65 -/
def impl_laid.l0 : Nat → List Int → List Int → Int → Int → Option (List Int)
 | 0, _, _, _, _ => none
 | k + 1, x0, x7, x8, x9 => if x9 < x8 then (if 0 ≤ x9 then (if x9 < (x7.length : Int) then ((impl_exchanged.f x0 (rd x7 x9)).bind fun t316 => (impl_laid.l0 k t316 x7 x8 (wrap64 (x9 + 1)))) else (none)) else (none)) else (some x0)
def impl_laid.f (k : Nat) (l0 : List Int) (l1 : List Int) : Option (List Int) := impl_laid.l0 k l0 l1 (l1.length : Int) 0
theorem impl_laid.mono_l : ∀ k, (∀ y0 y1 y2 y3, LeO (impl_laid.l0 k y0 y1 y2 y3) (impl_laid.l0 (k + 1) y0 y1 y2 y3))
 | 0 => fun _ _ _ _ r h => by simp [impl_laid.l0] at h
 | k + 1 => by
  have ih0 := impl_laid.mono_l k
  ·intro y0 y1 y2 y3
   unfold impl_laid.l0
   repeat' first
   | (with_reducible exact ih0 _ _ _ _)
   | (with_reducible exact LeO.refl _)
   | (with_reducible exact LeO.none _)
   | (with_reducible refine LeO.ite ?_ ?_)
   | (with_reducible refine LeO.bind ?_ (fun _ => ?_))
   | exact LeO.none _
   | refine LeO.ite ?_ ?_
   | refine LeO.bind ?_ (fun _ => ?_)
theorem impl_laid.mono : ∀ a0 a1 k, LeO (impl_laid.f k a0 a1) (impl_laid.f (k + 1) a0 a1) := by
 intro a0 a1 k
 have ih0 := impl_laid.mono_l k
 unfold impl_laid.f
 repeat' first
  | (with_reducible exact ih0 _ _ _ _)
  | (with_reducible exact LeO.refl _)
  | (with_reducible exact LeO.none _)
  | (with_reducible refine LeO.ite ?_ ?_)
  | (with_reducible refine LeO.bind ?_ (fun _ => ?_))
  | exact LeO.none _
  | refine LeO.ite ?_ ?_
  | refine LeO.bind ?_ (fun _ => ?_)
set_option maxHeartbeats 8000000 in
set_option maxRecDepth 100000 in
theorem impl_laid.calls (k : Nat) (P0_ : Nat → Prop) (A0 : Option Addr) (c0 : Nat) (l0 : List Int) (A1 : Option Addr) (c1 : Nat) (l1 : List Int) (r : List Int) (w : World) (hs0 : Kd.V (Kd.int .i64) 3 w w.heap.size (fun k_ => P0_ k_) (.slice A0 l0.length c0) l0) (hr1 : Kd.C (Kd.int .i64) w A1 l1.length l1) (hc1 : l1.length ≤ c1) (h : impl_laid.f k l0 l1 = some r) :
 Calls Tryz.prog 65 #[.slice A0 l0.length c0, .slice A1 l1.length c1] w fun e w' => ∃ v0_ : Value, e = .returned (v0_) ∧ Kd.V (Kd.int .i64) 3 w' w.heap.size (fun k_ => (P0_ k_ ∨ w.heap.size ≤ k_)) v0_ r ∧ Below w.heap.size w w' := by
 have HO0 := a_ (show Kd.V (Kd.int .i64) 3 w w.heap.size (fun k_ => (P0_ k_ ∨ w.heap.size ≤ k_)) (.slice A0 l0.length c0) l0 from Kd.V_mono hs0 (fun k_ hk => .inl hk))
 have HR1 := a_ hr1
 have HC1 := a_ hc1
 clear hr1 hc1
 have HB := a_ (Below.refl w.heap.size w)
 have H : (impl_laid.l0 k l0 l1 (l1.length : Int) 0) = some r := h
 clear h
 have H' := a_ H
 clear H
 go_enter Tryz.func65, Tryz.ntmps65
 go_wp2
 go_loopg [0, 9] k (fun kq v0 v9 w' => ∃ (x0_1 : List Int) (x9_1 : Int), v9 = .int .i64 x9_1 ∧ Aside0 (impl_laid.l0 kq x0_1 l1 (l1.length : Int) x9_1 = some r) ∧ Aside0 (kq ≤ k) ∧ Aside0 (Kd.V (Kd.int .i64) 3 w' w.heap.size (fun k_ => (P0_ k_ ∨ w.heap.size ≤ k_)) v0 x0_1) ∧ Aside0 (Below w.heap.size w w'))
 case atStart => exact ⟨(l0), (0), rs_, H', ⟨Nat.le_refl _⟩, ⟨Vl_ HO0.out⟩, ⟨Bl_ HB⟩⟩
 case round =>
  clear H'
  try clear c1
  try clear p2
  obtain ⟨x0_1, x9_1, rfl, HA, HK1, HO_0, HB⟩ := hrel
  cases gk with
  | zero => exact absurd HA.out (by simp [impl_laid.l0])
  | succ k1 =>
   have H := HA.out
   clear HA
   simp only [impl_laid.l0] at H
   by_cases c3 : x9_1 < (l1.length : Int)
   rotate_left
   ·rw [if_neg c3] at H
    have c3b0 : decide (x9_1 < (l1.length : Int)) = false := decide_eq_false c3
    clear c3
    obtain rfl := Option.some.inj H
    go_wp2
    go_ret
    exact ⟨_, re_, by (with_reducible repeat (first | apply Kd.V_alloc | apply Kd.V_drewN | apply Kd.V_drew)); exact HO_0.out, Bl_ HB⟩
   rw [if_pos c3] at H
   have c3b0 : decide (x9_1 < (l1.length : Int)) = true := decide_eq_true c3
   clear c3
   by_cases c4 : 0 ≤ x9_1
   rotate_left
   ·rw [if_neg c4] at H
    cases H
   rw [if_pos c4] at H
   have c4b0 : decide (0 ≤ x9_1) = true := decide_eq_true c4
   clear c4
   by_cases c5 : x9_1 < (l1.length : Int)
   rotate_left
   ·rw [if_neg c5] at H
    cases H
   rw [if_pos c5] at H
   have c5b0 : decide (x9_1 < (l1.length : Int)) = true := decide_eq_true c5
   clear c5
   obtain ⟨t316, A6, H⟩ := ob_ H
   (try dsimp only at H)
   have H' := a_ H
   clear H
   have p315 : 0 ≤ (x9_1 : Int) := od_
   have q315 : x9_1 < (l1.length : Int) := od_
   obtain ⟨ad315, e315, hx315_0⟩ := Kd.at_int HR1.out x9_1 p315 q315
   cases e315
   replace hx315_0 := (HB.out.cell (World.block_lt_of_cell? w _ hx315_0)).trans hx315_0
   replace p315 := eq_true p315
   replace q315 := eq_true q315
   obtain ⟨Ao7, co7, eo7⟩ := Kd.V_slice HO_0.out
   subst eo7
   go_wp2_with (first | ((with_reducible refine gate_callee (f := 77) rfl ?_); refine gm_ (some 15) Tryz.func77 #[.slice Ao7 x0_1.length co7, .int .i64 (rd l1 x9_1)] rfl ?_; (with_reducible refine (impl_exchanged.calls _ _ x0_1 (rd l1 x9_1) t316 _ ?side1 ?side2 A6.out).mono ?_); (case side1 => repeat (first | exact (Kd.V_reads' HO_0.out).2.2 | (with_reducible refine Kd.C_alloc ?_ _) | (with_reducible refine Kd.C_drewN ?_ _) | (with_reducible refine Kd.C_drew ?_))); (case side2 => exact (Kd.V_reads' HO_0.out).2.1); rintro e w8 ⟨v317, rfl, ho0, hb⟩; refine ⟨_, rfl, ?_⟩; replace HO_0 := a_ (Kd.V_elder' (Vl_ HO_0.out) (Kd.R_base ho0) hb); have HO318 := a_ (Kd.R_lower (Kd.R_newM (M := fun k_ => (w.heap.size ≤ k_)) ho0 (below_size (Bl_ HB)) (fun k_ h_ => h_)) (below_size (Bl_ HB))); replace HB := Bs_ HB hb; (try clear hb); (try clear hb2); (try clear hk); (try clear hi); (try clear ho0)))
   go_roundg k1
   case measure => have := HK1.out; omega
   case rel => exact ⟨(t316), (wrap64 (x9_1 + 1)), rs_, H', ⟨by have := HK1.out; omega⟩, ⟨Kd.V_mono (Kd.R_V (Rl_ (Kd.R_mono HO318.out (fun _ hk => hk.1)))) (fun k_ hk => by first | exact ⟨(.inr (hk.1)), hk.2⟩ | exact (.inr (hk)))⟩, ⟨Bl_ HB⟩⟩

/-! ### impl_depths: function 45 -/
/-- an order whose numbers have one sign each -/
def ordOk (p : List Int) : Bool := decide (p.length ≤ 100) && p.all fun x => decide (0 ≤ x ∧ x < 10)
def keyB (p : List Int) : ByteArray := strOfNums (p.map fun x => (wrap64 (48 + x)) % 256)
def keyL (p : List Int) : Lit := .string (keyB p).data.toList
/-- an order that has a key, and this is told by so many rounds -/
def keyOk (k : Nat) (p : List Int) : Bool := ordOk p && decide (impl_orderKey.f k p = some (keyB p))
def putD (x : List Int) (v : Int) (q : List (List Int × Int)) : List (List Int × Int) := if q.any (fun e => decide (e.1 = x)) then q else q ++ [(x, v)]
def depIn (k : Nat) (p : List Int) (v : Int) : List (List Int) → List (List Int × Int) → Option (List (List Int × Int))
  | [], q => some q
  | l :: ls, q => (impl_laid.f k p l).bind fun x => if keyOk k x = true ∧ q.length < 10000 then depIn k p v ls (putD x v q) else none
def depL (k0 : Nat) (ls : List (List Int)) : Nat → Nat → List (List Int × Int) → Option (List (List Int × Int))
  | 0, _, _ => none
  | k + 1, i, q => match q[i]? with
    | none => some q
    | some e => if keyOk k0 e.1 = true ∧ i < 10000 then (depIn k0 e.1 (wrap64 (e.2 + 1)) ls q).bind fun q' => depL k0 ls k (i + 1) q' else none
def impl_depths.f (k : Nat) (a0 : Int) : Option (List (List Int × Int)) := if 2 ≤ a0 ∧ a0 ≤ 6 then (impl_identity.f k a0).bind fun p => if keyOk k p = true then depL k (lvl (a0.toNat - 1) 8 0 []) k 0 [(p, 0)] else none else none
theorem keyOk_ok {k : Nat} {p : List Int} (h : keyOk k p = true) : ordOk p = true ∧ impl_orderKey.f k p = some (keyB p) := by
  unfold keyOk at h
  rw [Bool.and_eq_true] at h
  exact ⟨h.1, of_decide_eq_true h.2⟩
theorem keyOk_mono {k : Nat} {p : List Int} (h : keyOk k p = true) : keyOk (k + 1) p = true := by
  obtain ⟨h1, h2⟩ := keyOk_ok h
  unfold keyOk
  rw [h1, impl_orderKey.mono p k _ h2]
  simp
theorem LeO.guard {α : Type} {p q : Prop} [Decidable p] [Decidable q] {a b : Option α} (hpq : p → q) (h : LeO a b) : LeO (if p then a else none) (if q then b else none) := by
  intro r hr
  by_cases hp : p
  · rw [if_pos hp] at hr
    rw [if_pos (hpq hp)]
    exact h r hr
  · rw [if_neg hp] at hr
    cases hr
theorem depIn_mono (k : Nat) (p : List Int) (v : Int) : ∀ ls q, LeO (depIn k p v ls q) (depIn (k + 1) p v ls q)
  | [], _ => LeO.refl _
  | _ :: _, _ => LeO.bind (impl_laid.mono _ _ _) fun _ => LeO.guard (fun h => ⟨keyOk_mono h.1, h.2⟩) (depIn_mono k p v _ _)
theorem depL_mono (k0 : Nat) (ls : List (List Int)) : ∀ k i q, LeO (depL k0 ls k i q) (depL (k0 + 1) ls (k + 1) i q)
  | 0, _, _ => LeO.none _
  | k + 1, i, q => by
    unfold depL
    cases q[i]? with
    | none => exact LeO.refl _
    | some e => exact LeO.guard (fun h => ⟨keyOk_mono h.1, h.2⟩) (LeO.bind (depIn_mono _ _ _ _ _) fun _ => depL_mono k0 ls k _ _)
theorem impl_depths.mono : ∀ a0 k, LeO (impl_depths.f k a0) (impl_depths.f (k + 1) a0) := fun _ _ => LeO.ite (LeO.bind (impl_identity.mono _ _) fun _ => LeO.guard keyOk_mono (depL_mono _ _ _ _ _)) (LeO.refl _)
theorem keyB_data (p : List Int) : (keyB p).data.toList = p.map fun x => UInt8.ofNat ((wrap64 (48 + x)) % 256).toNat := by
  unfold keyB strOfNums
  simp
theorem keyL_inj {p p' : List Int} (h : ordOk p = true) (h' : ordOk p' = true) (e : keyL p = keyL p') : p = p' := by
  have e1 : (keyB p).data.toList = (keyB p').data.toList := by injection e
  rw [keyB_data, keyB_data] at e1
  unfold ordOk at h h'
  rw [Bool.and_eq_true, List.all_eq_true] at h h'
  have h2 := h.2
  have h2' := h'.2
  clear h h' e
  induction p generalizing p' with
  | nil => cases p' with
    | nil => rfl
    | cons a p' => cases e1
  | cons a p ih => cases p' with
    | nil => cases e1
    | cons b p' =>
      simp only [List.map_cons, List.cons.injEq] at e1
      have ha := of_decide_eq_true (h2 a (by simp))
      have hb := of_decide_eq_true (h2' b (by simp))
      have e2 := congrArg UInt8.toNat e1.1
      rw [show (wrap64 (48 + a)) % 256 = 48 + a by unfold wrap64; omega, show (wrap64 (48 + b)) % 256 = 48 + b by unfold wrap64; omega] at e2
      simp at e2
      rw [show a = b by omega, ih e1.2 (fun x hx => h2 x (by simp [hx])) (fun x hx => h2' x (by simp [hx]))]
theorem keyB_size (p : List Int) : (keyB p).size = p.length := by
  have := congrArg List.length (keyB_data p)
  simpa using this
/-- what the map tells of the list of orders and depths -/
def DepD (D : DataW Unit) (q : List (List Int × Int)) : Prop := Maps.IsMap D ∧ (∀ p, ordOk p = true → Maps.has D (keyL p) = q.any (fun e => decide (e.1 = p))) ∧ (∀ e, e ∈ q → ordOk e.1 = true ∧ ∀ z, D.atKey (keyL e.1) z = .lit (.int .i64 e.2)) ∧ (∀ kl, Maps.has D kl = true → ∃ e, e ∈ q ∧ keyL e.1 = kl) ∧ (q.map (·.1)).Nodup
theorem DepD.put {D : DataW Unit} {q : List (List Int × Int)} (h : DepD D q) {x : List Int} {v : Int} (hx : ordOk x = true) (hn : q.any (fun e => decide (e.1 = x)) = false) : DepD (D.put (keyL x) (.lit (.int .i64 v))) (q ++ [(x, v)]) := by
  obtain ⟨h1, h2, h3, h4, h5⟩ := h
  have hk : WideAt.IsKeyLit (keyL x) := trivial
  have hm : ∀ e, e ∈ q → e.1 ≠ x := by
    intro e he e1
    rw [List.any_eq_false] at hn
    exact hn e he (decide_eq_true e1)
  refine ⟨?_, fun p hp => ?_, fun e he => ?_, fun kl hkl => ?_, ?_⟩
  · obtain ⟨es, rfl⟩ := h1
    exact ⟨_, rfl⟩
  · by_cases e : p = x
    · subst e
      rw [Maps.has_put_same h1 hk]
      simp
    · rw [Maps.has_put_other (fun e2 => e (keyL_inj hp hx e2)), h2 p hp]
      simp [show ¬ x = p from fun e2 => e e2.symm]
  · rw [List.mem_append] at he
    rcases he with he | he
    · obtain ⟨g1, g2⟩ := h3 e he
      refine ⟨g1, fun z => ?_⟩
      rw [Maps.atKey_put_other (fun e2 => hm e he (keyL_inj g1 hx e2))]
      exact g2 z
    · rw [List.mem_singleton] at he
      subst he
      exact ⟨hx, fun z => Maps.atKey_put_same h1 hk _ _⟩
  · by_cases e : kl = keyL x
    · exact ⟨(x, v), by simp, e.symm⟩
    · rw [Maps.has_put_other e] at hkl
      obtain ⟨e2, he2, hk2⟩ := h4 kl hkl
      exact ⟨e2, by simp [he2], hk2⟩
  · rw [List.map_append, List.nodup_append]
    refine ⟨h5, by simp, fun a ha b hb => ?_⟩
    rw [List.mem_map] at ha
    obtain ⟨e, he, rfl⟩ := ha
    simp at hb
    subst hb
    exact hm e he
theorem DepD.nil : DepD (.map []) [] := ⟨⟨[], rfl⟩, fun p _ => rfl, fun e he => (by cases he), fun kl h => (by cases h), List.nodup_nil⟩
/-- the depth of an order; 0 of any other -/
def lookD (q : List (List Int × Int)) (p : List Int) : Int := match q.find? (fun e => decide (e.1 = p)) with | some e => e.2 | none => 0
theorem DepD.look {D : DataW Unit} {q : List (List Int × Int)} (h : DepD D q) {p : List Int} (hp : ordOk p = true) : D.atKey (keyL p) (.lit (.int .i64 0)) = .lit (.int .i64 (lookD q p)) := by
  obtain ⟨h1, h2, h3, h4, h5⟩ := h
  unfold lookD
  cases hf : q.find? (fun e => decide (e.1 = p)) with
  | some e =>
    have hm := List.mem_of_find?_eq_some hf
    have hp2 := List.find?_some hf
    have e1 : e.1 = p := of_decide_eq_true hp2
    rw [← e1]
    exact (h3 e hm).2 _
  | none =>
    rw [List.find?_eq_none] at hf
    exact Maps.atKey_of_not_has (by rw [h2 p hp, List.any_eq_false]; exact hf) _
theorem str_keyed : Maps.Keyed Tryz.prog 9 := Maps.string_keyed Tryz.underlying9
theorem keyOf_str {p : List Int} (h : ordOk p = true) : keyOf Tryz.prog 9 (.string (keyB p)) = some (keyL p) := by
  unfold keyOf
  rw [Tryz.underlying9]
  have h1 : p.length ≤ 100 := by
    unfold ordOk at h
    rw [Bool.and_eq_true] at h
    exact of_decide_eq_true h.1
  have h2 : (keyB p).size ≤ maxLen := by rw [keyB_size]; exact Nat.le_trans h1 (by decide)
  simp [mapKey, Tryz.underlying9, h2]
  rfl
def Dep (w : World) (bm : Nat) (q : List (List Int × Int)) : Prop := ∃ D : DataW Unit, w.ownsMap Tryz.prog 9 (plainElem Tryz.prog 3) bm q.length D ∧ DepD D q
theorem Dep.kept {w w1 : World} {bm : Nat} {q : List (List Int × Int)} (h : Dep w bm q) {row : Option Nat} (hg : w.grownBy w1 row) (hne : some bm ≠ row) : Dep w1 bm q := by
  obtain ⟨D, h1, h2⟩ := h
  exact ⟨D, h1.kept hg hne, h2⟩
theorem Dep.below {w w1 : World} {bm : Nat} {q : List (List Int × Int)} (h : Dep w bm q) (hb : Below w.heap.size w w1) : Dep w1 bm q := h.kept (grown_of_below hb none) (by simp)
theorem Dep.lt {w : World} {bm : Nat} {q : List (List Int × Int)} (h : Dep w bm q) : bm < w.heap.size := by
  obtain ⟨D, h1, _⟩ := h
  exact h1.lt
section
variable {ops : Array Oper} {rest : List Oper} {o : Oper} {a : Act} {Q : Exit → Act → World → Prop} {W : World}
theorem dep_made (hop : o.op = .makeMap 66 none) (hgd : o.guard = none) (h : ∀ b w1, b = W.heap.size → Dep w1 b [] → Below W.heap.size W w1 → wpList Tryz.prog ops Q rest (a.put o.dst (.map (some b))) w1) : wpList Tryz.prog ops Q (o :: rest) a W := by
  refine wpList_plain hgd fun K' hK' => ?_
  unfold Oper.wp
  simp [execOp, hop, run_makeMap, Result.andThen]
  exact hK' _ _ (h _ _ rfl ⟨_, World.ownsMap_made W _ _ _, DepD.nil⟩ (below_alloc (Below.refl _ _) _))
theorem Dep.put {w : World} {bm : Nat} {q : List (List Int × Int)} (h : Dep w bm q) {x : List Int} {d : Int} (hx : ordOk x = true) (hn : q.any (fun e => decide (e.1 = x)) = false) (hq : q.length < 10000) (hd : (Lit.int .i64 d).wf = true) :
    ∃ w', (Instr.mapUpdate 66 (.map (some bm)) (.string (keyB x)) (.int .i64 d)).run Tryz.prog w = .ok () w' ∧ Dep w' bm (q ++ [(x, d)]) ∧ w.grownBy w' (some bm) := by
  obtain ⟨D, h1, h2⟩ := h
  obtain ⟨w', r1, r2, r3⟩ := h1.update str_keyed Tryz.underlying66 (Nat.lt_trans hq (by decide)) (keyOf_str hx) (plainElem_int Tryz.underlying3 hd)
  exact ⟨w', r1, ⟨_, by rw [List.length_append]; exact r2, h2.put hx hn⟩, r3⟩
theorem dep_put (m y v : Operand) (hop : o.op = .insert 66 m y v ∨ o.op = .mapUpdate 66 m y v) (hgd : o.guard = none) (bm : Nat) (q : List (List Int × Int)) (x : List Int) (d : Int) (hm : a.eval m = .map (some bm)) (hy : a.eval y = .string (keyB x)) (hv : a.eval v = .int .i64 d)
    (hD : Dep W bm q) (hx : ordOk x = true) (hn : q.any (fun e => decide (e.1 = x)) = false) (hq : q.length < 10000) (hd : (Lit.int .i64 d).wf = true) (h : ∀ w1, Dep w1 bm (q ++ [(x, d)]) → W.grownBy w1 (some bm) → wpList Tryz.prog ops Q rest (a.put o.dst undef) w1) : wpList Tryz.prog ops Q (o :: rest) a W := by
  refine wpList_plain hgd fun K' hK' => ?_
  obtain ⟨w', r1, r2, r3⟩ := hD.put hx hn hq hd
  unfold Oper.wp
  rcases hop with hop | hop <;> (simp [execOp, hop, hm, hy, hv, r1, Result.andThen]; exact hK' _ _ (h w' r2 r3))
theorem zero_int (w : World) : (zeroValue 3).run Tryz.prog w = .ok (.int .i64 0) w := by kernel_rfl
theorem dep_look (m y : Operand) (hop : o.op = .lookup 66 m y false) (hgd : o.guard = none) (bm : Nat) (q : List (List Int × Int)) (x : List Int) (hm : a.eval m = .map (some bm)) (hy : a.eval y = .string (keyB x)) (hD : Dep W bm q) (hx : ordOk x = true)
    (h : wpList Tryz.prog ops Q rest (a.put o.dst (.int .i64 (lookD q x))) W) : wpList Tryz.prog ops Q (o :: rest) a W := by
  obtain ⟨D, h1, h2⟩ := hD
  refine wpList_lookup_own_int W hgd m y 66 hop 9 3 .i64 str_keyed Tryz.underlying66 Tryz.underlying3 (zero_int W) bm _ D hm h1 _ _ hy (keyOf_str hx) (fun c hc _ => ?_)
  rw [h2.look hx] at hc
  injection hc with hc
  injection hc with _ hc
  rw [← hc]
  exact h
theorem dep_look_ok (m y : Operand) (hop : o.op = .lookup 66 m y true) (hgd : o.guard = none) (bm : Nat) (q : List (List Int × Int)) (x : List Int) (hm : a.eval m = .map (some bm)) (hy : a.eval y = .string (keyB x)) (hD : Dep W bm q) (hx : ordOk x = true)
    (h : wpList Tryz.prog ops Q rest (a.put o.dst (.tuple #[.int .i64 (lookD q x), .bool (q.any fun e => decide (e.1 = x))])) W) : wpList Tryz.prog ops Q (o :: rest) a W := by
  obtain ⟨D, h1, h2⟩ := hD
  refine wpList_lookup_own_ok_int W hgd m y 66 hop 9 3 .i64 str_keyed Tryz.underlying66 Tryz.underlying3 (zero_int W) bm _ D hm h1 _ _ hy (keyOf_str hx) (fun c hc _ => ?_)
  rw [h2.look hx] at hc
  injection hc with hc
  injection hc with _ hc
  rw [← hc, h2.2.1 x hx]
  exact h
end
/-- an order of the queue: where it stands, and what it leads to -/
theorem q_at {W : World} {base : Nat} {ok : Nat → Prop} {A : Option Addr} {n cap : Nat} {xs : List (List Int)} {p : List Int} (h : Kd.N (Kd.slice 3 (Kd.int .i64)) 31 W base ok (.slice A n cap) xs) (i : Nat) (hi : xs[i]? = some p) :
    ∃ ad A' c', A = some ad ∧ W.cell? (ad.add i) = some (.slice A' p.length c') ∧ Kd.V (Kd.int .i64) 3 W base (fun k => ok k ∧ some k ≠ (Value.slice A n cap).ownBlock) (.slice A' p.length c') p := by
  obtain ⟨hi, rfl⟩ := List.getElem?_eq_some_iff.1 hi
  have hn := (Kd.N_reads' h).1
  obtain ⟨g, cap', e1, _, _, _⟩ := Kd.N_form h (by omega)
  injection e1 with e1 e2 e3
  subst e1
  obtain ⟨c, hcl, hF, hcc⟩ := Kd.N_get h [] (i : Int) (by omega) (by omega)
  have ex : xs.getD (i : Int).toNat [] = xs[i] := by simp [hi]
  rw [ex] at hF
  obtain ⟨A', c', rfl, hl, hC⟩ := Kd.FK_now hF
  have hx := hcc 0 _ rfl
  rw [show (i : Int).toNat * (Kd.slice 3 (Kd.int .i64)).sz + 0 = i by show (i : Int).toNat * 1 + 0 = i; omega] at hx
  refine ⟨_, A', c', rfl, hx, Kd.V_mk hl (fun W' hW => ?_)⟩
  obtain ⟨A2, c2, e, _, hC2⟩ := hF W' hW
  injection e with e _
  injection e with e _ _
  subst e
  exact hC2
theorem l_at {W : World} {A : Option Addr} {n : Nat} {xs : List (List Int)} {p : List Int} (h : Kd.C (Kd.slice 3 (Kd.int .i64)) W A n xs) (i : Nat) (hi : xs[i]? = some p) :
    ∃ ad A' c', A = some ad ∧ W.cell? (ad.add i) = some (.slice A' p.length c') ∧ p.length ≤ c' ∧ Kd.C (Kd.int .i64) W A' p.length p := by
  obtain ⟨hi, rfl⟩ := List.getElem?_eq_some_iff.1 hi
  obtain ⟨ad, c, e, hcl, hK, hcc⟩ := Kd.C_get h [] (i : Int) (by omega) (by have := h.1; omega)
  have ex : xs.getD (i : Int).toNat [] = xs[i] := by simp [hi]
  rw [ex] at hK
  obtain ⟨A', c', rfl, hl, hC⟩ := hK
  have hx := hcc 0 _ rfl
  rw [show (i : Int).toNat * (Kd.slice 3 (Kd.int .i64)).sz + 0 = i by show (i : Int).toNat * 1 + 0 = i; omega] at hx
  exact ⟨ad, A', c', e, hx, hl, hC⟩
theorem q_fk {W : World} {base : Nat} {ok : Nat → Prop} {A : Option Addr} {c : Nat} {p : List Int} (h : Kd.V (Kd.int .i64) 3 W base ok (.slice A p.length c) p) : Kd.FK (Kd.slice 3 (Kd.int .i64)) W ok p [.slice A p.length c] := fun W' hW => ⟨A, c, rfl, (Kd.V_reads' h).2.1, Kd.V_F h W' hW⟩
theorem DepD.own {D : DataW Unit} {q : List (List Int × Int)} (h : DepD D q) {e : List Int × Int} {i : Nat} (he : q[i]? = some e) : lookD q e.1 = e.2 := by
  have h1 := h.look (h.2.2.1 e (List.mem_of_getElem? he)).1
  rw [(h.2.2.1 e (List.mem_of_getElem? he)).2] at h1
  injection h1 with h1
  injection h1 with _ h1
  exact h1.symm
theorem Dep.own {w : World} {bm : Nat} {q : List (List Int × Int)} (h : Dep w bm q) {e : List Int × Int} {i : Nat} (he : q[i]? = some e) : lookD q e.1 = e.2 := by
  obtain ⟨D, _, h2⟩ := h
  exact h2.own he
theorem lvl_few : ∀ m, m ≤ 5 → (lvl m 8 0 []).length ≤ 1000 := by decide +kernel
set_option maxHeartbeats 4000000 in
set_option maxRecDepth 100000 in
theorem impl_depths.calls (k : Nat) (a0 : Int) (r : List (List Int × Int)) (w : World) (h : impl_depths.f k a0 = some r) :
    Calls Tryz.prog 45 #[.int .i64 a0] w fun e w' => ∃ bm, e = .returned (.map (some bm)) ∧ w.heap.size ≤ bm ∧ Dep w' bm r ∧ Below w.heap.size w w' := by
  unfold impl_depths.f at h
  by_cases hn : 2 ≤ a0 ∧ a0 ≤ 6
  case neg => rw [if_neg hn] at h; cases h
  rw [if_pos hn] at h
  replace h := Option.bind_eq_some_iff.mp h
  obtain ⟨p, hp, h⟩ := h
  by_cases hk : keyOk k p = true
  case neg => rw [if_neg hk] at h; cases h
  rw [if_pos hk] at h
  obtain ⟨n, rfl⟩ : ∃ n : Nat, a0 = n := ⟨a0.toNat, by omega⟩
  rw [show ((n : Int).toNat - 1) = n - 1 by omega] at h
  obtain ⟨ls, hls⟩ : ∃ ls, ls = lvl (n - 1) 8 0 [] := ⟨_, rfl⟩
  rw [← hls] at h
  have HL := Lib.hid (lvl_few (n - 1) (by omega))
  have hN : 2 ≤ n ∧ n ≤ 8 := by omega
  have HN := Lib.hid hN
  have HLS := Aside0.mk hls
  have HP := Aside0.mk hp
  have HK := Aside0.mk (keyOk_ok hk)
  have H' := Aside0.mk h
  clear hn hp hk h hls hN
  go_enter Tryz.func45, Tryz.ntmps45
  go_wp2_with (first | ((with_reducible refine gate_callee (f := 33) rfl ?_); refine goesL_ (some 14) rfl rfl Tryz.func33 (by kernel_rfl) rfl #[.int .i64 (n : Int), .slice none ([] : List Int).length 0, .int .i64 ((0 : Nat) : Int), .slice none 0 0] rfl (by (try simp only [List.map_toArray, List.map_cons, List.map_nil]); first | done | rfl | (simp only [List.length_drop, List.length_take]; rfl)) ?_; refine (allLevels_gen n HN.out.1 HN.out.2 8 0 none 0 [] (.slice none 0 0) [] (fun _ => False) (fun _ => False) w _ (by omega) (by have := HN.out; omega) (by simp) (by have := HL.out; simp; omega) (Below.refl _ _) (Kd.R_nil _ _ _ _ _) (Kd.S_nil _ _ _ _ _) (fun _ h => h.elim)).mono ?_; rintro e w1 ⟨v1, rfl, hS, hb, _, _⟩; refine ⟨_, rfl, ?_⟩; obtain ⟨A1, c1, ev1⟩ := Kd.S_slice hS; subst ev1; have HC1 := Aside0.mk (Kd.S_reads' hS).2.2; have HB0 := Aside0.mk hb; clear hS hb; simp only [List.nil_append] at HC1; rw [← HLS.out] at HC1; simp only [List.nil_append]; simp only [← HLS.out]) | ((with_reducible refine gate_callee (f := 63) rfl ?_); refine goesL_ (some 16) rfl rfl Tryz.func63 (by kernel_rfl) rfl #[.int .i64 (n : Int)] rfl (by (try simp only [List.map_toArray, List.map_cons, List.map_nil]); first | done | rfl) ?_; (with_reducible refine (impl_identity.calls k (n : Int) p _ HP.out).mono ?_); rintro e w2 ⟨v2, rfl, hR, hb⟩; refine ⟨_, rfl, ?_⟩; obtain ⟨A2, c2, ev2⟩ := Kd.R_slice hR; subst ev2; have HR2 := Aside0.mk hR; have HB := Aside0.mk hb; clear hR hb) | ((with_reducible refine gate_dst (N := 17) rfl ?_); refine Kd.R_lit (Kd.slice 3 (Kd.int .i64)) w1.heap.size 31 ?hg (N := 17) ?hd (xs := [p]) (inner := [.slice A2 p.length c2]) (ok := fun _ => True) (okp := fun _ => True) ?hr ?hp (fun _ hk => hk) trivial HB.out HB.out.size (by simp) ?_; (case hd => rfl); (case hg => rfl); (case hr => first | (go_simp; done) | (go_simp; rfl)); (case hp => exact (Reps.one (show Kd.M (Kd.slice 3 (Kd.int .i64)) _ _ _ p [.slice A2 p.length c2] from ⟨_, rfl, HR2.out⟩) (Reps.none _ _))); intro v3 w3 ho3 hb hg_ hnew_; clear hg_ hnew_; obtain ⟨A3, c3, ev3⟩ := Kd.R_slice ho3; subst ev3; have HQ := Aside0.mk (Kd.R_N ho3); replace HB := Aside0.mk hb; clear ho3 hb) | ((with_reducible refine gate_dst (N := 18) rfl ?_); refine dep_made rfl rfl ?_; intro bm w4 hbm hD hb; have HD := Aside0.mk hD; replace HQ := Aside0.mk (Kd.N_below (Kd.N_elderB HQ.out bm (by rw [hbm]; exact Nat.le_refl _)) hb); have HBM := Aside0.mk (show w1.heap.size ≤ bm by rw [hbm]; exact HB.out.size); replace HB := Aside0.mk (below_step HB.out hb); clear hbm hb hD; obtain ⟨ad3, A4, c4, e4, hx4, hv4⟩ := q_at HQ.out 0 rfl; cases e4; rw [Addr.add_zero'] at hx4; have HV4 := Aside0.mk hv4; clear hv4; simp only [List.length_singleton] at HV4) | ((with_reducible refine gate_callee (f := 64) rfl ?_); refine goesL_ (some 22) rfl rfl Tryz.func64 (by kernel_rfl) rfl #[.slice A4 p.length c4] rfl (by (try simp only [List.map_toArray, List.map_cons, List.map_nil]); first | done | rfl) ?_; (with_reducible refine (impl_orderKey.calls k A4 c4 p (keyB p) _ (Kd.V_reads' HV4.out).2.2 (Kd.V_reads' HV4.out).2.1 HK.out.2).mono ?_); rintro e w5 ⟨rfl, hb⟩; refine ⟨_, rfl, ?_⟩; replace HQ := Aside0.mk (Kd.N_below HQ.out hb); replace HD := Aside0.mk (HD.out.below hb); replace HB := Aside0.mk (below_step HB.out hb); clear hb) | ((with_reducible refine gate_ (.insert 66 (.tmp 18) (.tmp 22) (.const (.int .i64 0))) rfl ?_); refine dep_put (.tmp 18) (.tmp 22) (.const (.int .i64 0)) (.inl rfl) rfl bm [] p 0 rfl rfl rfl HD.out HK.out.1 rfl (by decide) (by decide) ?_; intro w6 hD hg; replace HD := Aside0.mk hD; replace HQ := Aside0.mk (Kd.N_grown HQ.out hg (fun k_ hk_ e_ => hk_.2 (by injection e_))); replace HB := Aside0.mk (pw_below_grown HB.out (some bm) HB.out.size hg (by intro k e; injection e with e; rw [← e]; exact HBM.out)); clear hD hg))
  go_loopg [4, 6] k (fun gg v4 v6 wr => ∃ (i : Nat) (q : List (List Int × Int)), v6 = .int .i64 (i : Int) ∧ Aside0 (depL k ls gg i q = some r) ∧ i ≤ q.length ∧ Aside0 (Kd.N (Kd.slice 3 (Kd.int .i64)) 31 wr w1.heap.size (fun k_ => True ∧ k_ ≠ bm) v4 (q.map (·.1))) ∧ Aside0 (Dep wr bm q) ∧ Aside0 (Below w1.heap.size w1 wr))
  case atStart => exact ⟨0, [(p, 0)], rfl, H', by simp, HQ, HD, HB⟩
  case round =>
    clear H' HQ HD HB hx4 HV4 HR2
    obtain ⟨i, q, rfl, HF, hi, HQ, HD, HB⟩ := hrel
    obtain ⟨wq, hwq⟩ : ∃ wq : World, wq = wr := ⟨_, rfl⟩
    obtain ⟨Aq, cq, eq⟩ := Kd.N_slice HQ.out
    subst eq
    obtain ⟨qs, hqs⟩ : ∃ qs, qs = q.map (·.1) := ⟨_, rfl⟩
    rw [← hqs] at HQ ⊢
    have hql : qs.length = q.length := by rw [hqs]; simp
    cases gk with
    | zero => have hF := HF.out; simp [depL] at hF
    | succ gg =>
      have hF := HF.out
      clear HF
      simp only [depL] at hF
      cases he : q[i]? with
      | none =>
        rw [he] at hF
        obtain rfl := Option.some.inj hF
        have hnl := List.getElem?_eq_none_iff.1 he
        have c1 : decide ((i : Int) < (qs.length : Int)) = false := decide_eq_false (by omega)
        have c2 : decide (i < qs.length) = false := decide_eq_false (by omega)
        clear hF he hnl hi hql hqs hwq
        go_wp2
        go_ret
        exact ⟨bm, rfl, Nat.le_trans HB0.out.size HBM.out, HD.out, below_step HB0.out HB.out⟩
      | some e =>
        rw [he] at hF
        simp only at hF
        by_cases hk : keyOk k e.1 = true ∧ i < 10000
        case neg => rw [if_neg hk] at hF; cases hF
        rw [if_pos hk] at hF
        replace hF := Option.bind_eq_some_iff.mp hF
        obtain ⟨q', hq', hF⟩ := hF
        have hlt : i < q.length := (List.getElem?_eq_some_iff.1 he).1
        have hqi : qs[i]? = some e.1 := by rw [hqs, List.getElem?_map, he]; rfl
        obtain ⟨ad, Ap, cp, ea, hx, hv⟩ := q_at HQ.out i hqi
        cases ea
        have c1 : decide ((i : Int) < (qs.length : Int)) = true := decide_eq_true (by omega)
        have p1 : (0 ≤ (i : Int)) = True := eq_true (by omega)
        have q1 : ((i : Int) < (qs.length : Int)) = True := eq_true (by omega)
        have HO := Aside0.mk (HD.out.own he)
        have HV := Aside0.mk hv
        have HK := Aside0.mk (keyOk_ok hk.1)
        have HI := Lib.hid hk.2
        have HE := Aside0.mk he
        have HR := Aside0.mk hF
        have HIN := Aside0.mk hq'
        have HQS := Aside0.mk hqs
        have HQL := Lib.hid hql
        clear he hF hk hlt hqi hv hq' hql hqs hi hwq
        go_wp2_with (first | ((with_reducible refine gate_callee (f := 64) rfl ?_); refine goesL_ (some 35) rfl rfl Tryz.func64 (by kernel_rfl) rfl #[.slice Ap e.1.length cp] rfl (by (try simp only [List.map_toArray, List.map_cons, List.map_nil]); first | done | rfl) ?_; (with_reducible refine (impl_orderKey.calls k Ap cp e.1 (keyB e.1) _ (Kd.V_reads' HV.out).2.2 (Kd.V_reads' HV.out).2.1 HK.out.2).mono ?_); rintro ee w7 ⟨rfl, hb⟩; refine ⟨_, rfl, ?_⟩; replace HQ := Aside0.mk (Kd.N_below HQ.out hb); replace HD := Aside0.mk (HD.out.below hb); replace HB := Aside0.mk (below_step HB.out hb); clear hb hx) | ((with_reducible refine gate_ (.lookup 66 (.tmp 30) (.tmp 35) false) rfl ?_); refine dep_look (.tmp 30) (.tmp 35) rfl rfl bm q e.1 rfl rfl HD.out HK.out.1 ?_; rw [HO.out]))
        clear HV p1 q1 c1
        go_loopg [4, 39] ls.length (fun gh v4 v39 wr => ∃ (j : Nat) (q2 : List (List Int × Int)), v39 = .int .i64 (j : Int) ∧ Aside0 (depIn k e.1 (wrap64 (e.2 + 1)) (ls.drop j) q2 = some q') ∧ Aside0 (q2[i]? = some e) ∧ j ≤ ls.length ∧ ls.length - j ≤ gh ∧ Aside0 (Kd.N (Kd.slice 3 (Kd.int .i64)) 31 wr w1.heap.size (fun k_ => True ∧ k_ ≠ bm) v4 (q2.map (·.1))) ∧ Aside0 (Dep wr bm q2) ∧ Aside0 (Below w1.heap.size w1 wr))
        case atStart => exact ⟨0, q, rfl, ⟨by rw [List.drop_zero]; exact HIN.out⟩, HE, Nat.zero_le _, by omega, ⟨by rw [← HQS.out]; exact HQ.out⟩, HD, HB⟩
        case round =>
          clear HQ HD HB HIN HE HQS HQL HO
          obtain ⟨j, q2, rfl, HIN, HE, hj, hgh, HQ, HD, HB⟩ := hrel
          obtain ⟨Aq2, cq2, eq2⟩ := Kd.N_slice HQ.out
          subst eq2
          obtain ⟨qs2, hqs2⟩ : ∃ qs, qs = q2.map (·.1) := ⟨_, rfl⟩
          rw [← hqs2] at HQ ⊢
          have hql2 : qs2.length = q2.length := by rw [hqs2]; simp
          by_cases hjl : j < ls.length
          · have hlj : ls[j]? = some ls[j] := List.getElem?_eq_getElem hjl
            obtain ⟨lv, hlv⟩ : ∃ lv, lv = ls[j] := ⟨_, rfl⟩
            rw [← hlv] at hlj
            have hI := HIN.out
            rw [List.drop_eq_getElem_cons hjl, ← hlv] at hI
            simp only [depIn] at hI
            replace hI := Option.bind_eq_some_iff.mp hI
            obtain ⟨x, hx1, hI⟩ := hI
            by_cases hk2 : keyOk k x = true ∧ q2.length < 10000
            case neg => rw [if_neg hk2] at hI; cases hI
            rw [if_pos hk2] at hI
            have hqi2 : qs2[i]? = some e.1 := by rw [hqs2, List.getElem?_map, HE.out]; rfl
            have hil : i < q2.length := (List.getElem?_eq_some_iff.1 HE.out).1
            obtain ⟨ad2, Ap2, cp2, ea2, hx2, hv2⟩ := q_at HQ.out i hqi2
            cases ea2
            obtain ⟨adl, Al, cl, eal, hxl, hcl, hCl⟩ := l_at (Kd.C_below HC1.out HB.out) j hlj
            cases eal
            have c1 : decide ((j : Int) < (ls.length : Int)) = true := decide_eq_true (by omega)
            have p1 : (0 ≤ (i : Int)) = True := eq_true (by omega)
            have q1 : ((i : Int) < (qs2.length : Int)) = True := eq_true (by omega)
            have p2 : (0 ≤ (j : Int)) = True := eq_true (by omega)
            have q3 : ((j : Int) < (ls.length : Int)) = True := eq_true (by omega)
            have hgh' : ls.length - (j + 1) ≤ gk - 1 ∧ gk - 1 < gk := by omega
            have HVP : Aside0 (Kd.V (Kd.int .i64) 3 wr wr.heap.size (fun k_ => (True ∧ k_ ≠ bm) ∧ some k_ ≠ (Value.slice (some ad2) qs2.length cq2).ownBlock) (.slice Ap2 e.1.length cp2) e.1) := ⟨hv2⟩
            have HCL := Aside0.mk hCl
            have HCC := Aside0.mk hcl
            have HX := Aside0.mk hx1
            have HKX := Aside0.mk (keyOk_ok hk2.1)
            have HQN := Lib.hid hk2.2
            have HREST := Aside0.mk hI
            have HQS2 := Aside0.mk hqs2
            have HJ := Lib.hid hjl
            have HG := Lib.hid hgh'
            have HWJ := Lib.hid (show wrap64 ((j : Int) + 1) = ((j + 1 : Nat) : Int) by have := HL.out; rw [← HLS.out] at this; unfold wrap64; omega)
            have HQ2L := Lib.hid hql2
            clear hlj hlv hI hk2 hqi2 hil hv2 hCl hcl hx1 hjl hgh hj HIN hqs2 hql2 hgh'
            have HWF := Aside0.mk (show (Lit.int .i64 (wrap64 (e.2 + 1))).wf = true from by simp [Lit.wf, IntKind.min, IntKind.max, IntKind.bits, IntKind.signed]; unfold wrap64; omega)
            cases hmet : q2.any (fun e => decide (e.1 = x)) with
            | true =>
              go_wp2_with (first | ((with_reducible refine gate_callee (f := 65) rfl ?_); refine goesL_ (some 48) rfl rfl Tryz.func65 (by kernel_rfl) rfl #[.slice Ap2 e.1.length cp2, .slice Al lv.length cl] rfl (by (try simp only [List.map_toArray, List.map_cons, List.map_nil]); first | done | rfl) ?_; (with_reducible refine (impl_laid.calls k _ Ap2 cp2 e.1 Al cl lv x _ HVP.out HCL.out HCC.out HX.out).mono ?_); rintro ee w7 ⟨v7, rfl, hV, hb⟩; refine ⟨_, rfl, ?_⟩; obtain ⟨Ax, cx, ex⟩ := Kd.V_slice hV; subst ex; have HVX := Aside0.mk (Kd.V_mono hV (fun k_ h_ => h_.elim id (fun hn => (⟨⟨trivial, fun e_ => by have := HD.out.lt; omega⟩, fun e_ => by have := Kd.N_lt HQ.out k_ e_.symm; omega⟩ : (True ∧ k_ ≠ bm) ∧ some k_ ≠ (Value.slice (some ad2) qs2.length cq2).ownBlock)))); replace HQ := Aside0.mk (Kd.N_below HQ.out hb); replace HD := Aside0.mk (HD.out.below hb); replace HB := Aside0.mk (below_step HB.out hb); clear hb hV hx2 hxl HVP) | ((with_reducible refine gate_callee (f := 64) rfl ?_); refine goesL_ (some 52) rfl rfl Tryz.func64 (by kernel_rfl) rfl #[.slice Ax x.length cx] rfl (by (try simp only [List.map_toArray, List.map_cons, List.map_nil]); first | done | rfl) ?_; (with_reducible refine (impl_orderKey.calls k Ax cx x (keyB x) _ (Kd.V_reads' HVX.out).2.2 (Kd.V_reads' HVX.out).2.1 HKX.out.2).mono ?_); rintro ee w8 ⟨rfl, hb⟩; refine ⟨_, rfl, ?_⟩; replace HQ := Aside0.mk (Kd.N_below HQ.out hb); replace HD := Aside0.mk (HD.out.below hb); replace HVX := Aside0.mk (Kd.V_below HVX.out hb); replace HB := Aside0.mk (below_step HB.out hb); clear hb) | ((with_reducible refine gate_ (.lookup 66 (.tmp 50) (.tmp 52) true) rfl ?_); refine dep_look_ok (.tmp 50) (.tmp 52) rfl rfl bm q2 x rfl rfl HD.out HKX.out.1 ?_; rw [hmet]))
              go_roundg (gk - 1)
              case measure => exact HG.out.2
              case rel => exact ⟨j + 1, q2, (by rw [HWJ.out]), ⟨by have h_ := HREST.out; unfold putD at h_; rw [if_pos hmet] at h_; exact h_⟩, HE, HJ.out, HG.out.1, ⟨by rw [← HQS2.out]; exact HQ.out⟩, HD, HB⟩
            | false =>
              go_wp2_with (first | ((with_reducible refine gate_callee (f := 65) rfl ?_); refine goesL_ (some 48) rfl rfl Tryz.func65 (by kernel_rfl) rfl #[.slice Ap2 e.1.length cp2, .slice Al lv.length cl] rfl (by (try simp only [List.map_toArray, List.map_cons, List.map_nil]); first | done | rfl) ?_; (with_reducible refine (impl_laid.calls k _ Ap2 cp2 e.1 Al cl lv x _ HVP.out HCL.out HCC.out HX.out).mono ?_); rintro ee w7 ⟨v7, rfl, hV, hb⟩; refine ⟨_, rfl, ?_⟩; obtain ⟨Ax, cx, ex⟩ := Kd.V_slice hV; subst ex; have HVX := Aside0.mk (Kd.V_mono hV (fun k_ h_ => h_.elim id (fun hn => (⟨⟨trivial, fun e_ => by have := HD.out.lt; omega⟩, fun e_ => by have := Kd.N_lt HQ.out k_ e_.symm; omega⟩ : (True ∧ k_ ≠ bm) ∧ some k_ ≠ (Value.slice (some ad2) qs2.length cq2).ownBlock)))); replace HQ := Aside0.mk (Kd.N_below HQ.out hb); replace HD := Aside0.mk (HD.out.below hb); replace HB := Aside0.mk (below_step HB.out hb); clear hb hV hx2 hxl HVP) | ((with_reducible refine gate_callee (f := 64) rfl ?_); refine goesL_ (some 52) rfl rfl Tryz.func64 (by kernel_rfl) rfl #[.slice Ax x.length cx] rfl (by (try simp only [List.map_toArray, List.map_cons, List.map_nil]); first | done | rfl) ?_; (with_reducible refine (impl_orderKey.calls k Ax cx x (keyB x) _ (Kd.V_reads' HVX.out).2.2 (Kd.V_reads' HVX.out).2.1 HKX.out.2).mono ?_); rintro ee w8 ⟨rfl, hb⟩; refine ⟨_, rfl, ?_⟩; replace HQ := Aside0.mk (Kd.N_below HQ.out hb); replace HD := Aside0.mk (HD.out.below hb); replace HVX := Aside0.mk (Kd.V_below HVX.out hb); replace HB := Aside0.mk (below_step HB.out hb); clear hb) | ((with_reducible refine gate_ (.lookup 66 (.tmp 50) (.tmp 52) true) rfl ?_); refine dep_look_ok (.tmp 50) (.tmp 52) rfl rfl bm q2 x rfl rfl HD.out HKX.out.1 ?_; rw [hmet]) | ((with_reducible refine gate_callee (f := 64) rfl ?_); refine goesL_ (some 60) rfl rfl Tryz.func64 (by kernel_rfl) rfl #[.slice Ax x.length cx] rfl (by (try simp only [List.map_toArray, List.map_cons, List.map_nil]); first | done | rfl) ?_; (with_reducible refine (impl_orderKey.calls k Ax cx x (keyB x) _ (Kd.V_reads' HVX.out).2.2 (Kd.V_reads' HVX.out).2.1 HKX.out.2).mono ?_); rintro ee w9 ⟨rfl, hb⟩; refine ⟨_, rfl, ?_⟩; replace HQ := Aside0.mk (Kd.N_below HQ.out hb); replace HD := Aside0.mk (HD.out.below hb); replace HVX := Aside0.mk (Kd.V_below HVX.out hb); replace HB := Aside0.mk (below_step HB.out hb); clear hb) | ((with_reducible refine gate_ (.mapUpdate 66 (.tmp 58) (.tmp 60) (.tmp 62)) rfl ?_); refine dep_put (.tmp 58) (.tmp 60) (.tmp 62) (.inr rfl) rfl bm q2 x (wrap64 (e.2 + 1)) rfl rfl rfl HD.out HKX.out.1 hmet HQN.out HWF.out ?_; intro w10 hD hg; replace HD := Aside0.mk hD; replace HQ := Aside0.mk (Kd.N_grown HQ.out hg (fun k_ hk_ e_ => hk_.2 (by injection e_))); replace HVX := Aside0.mk (Kd.V_step HVX.out (fun k_ h_ hl_ => hg.block k_ hl_ (fun e_ => h_.1.2 (by injection e_)))); replace HB := Aside0.mk (pw_below_grown HB.out (some bm) HB.out.size hg (by intro k e; injection e with e; rw [← e]; exact HBM.out)); clear hD hg) | ((with_reducible refine gate_builtin (b := .append) (xs := #[.tmp 63, .tmp 65]) rfl ?_); at_builtin; refine Kd.N_append (Kd.slice 3 (Kd.int .i64)) (w0 := w1) w1.heap.size rfl (.tmp 63) (.tmp 65) 25 31 (.slice none 0 0) 24 rfl Tryz.underlying25 info31 rfl (by decide) (by omega) (.slice (some ad2) qs2.length cq2) qs2 x [.slice Ax x.length cx] (fun k_ => True ∧ k_ ≠ bm) (fun k_ => (True ∧ k_ ≠ bm) ∧ some k_ ≠ (Value.slice (some ad2) qs2.length cq2).ownBlock) rfl rfl (q_fk HVX.out) (fun _ h => h) (fun k_ hk_ => ⟨trivial, fun e_ => by have := HD.out.lt; omega⟩) HQ.out HB.out HB.out.size (by have := HQN.out; have := HQ2L.out; omega) ?_; intro v11 w11 hN hb hg hat; replace HD := Aside0.mk (HD.out.kept hg (fun e_ => (HQ.out.1 bm e_.symm).2 rfl)); replace HQ := Aside0.mk hN; replace HB := Aside0.mk hb; clear hN hb hg hat))
              go_roundg (gk - 1)
              case measure => exact HG.out.2
              case rel => exact ⟨j + 1, q2 ++ [(x, wrap64 (e.2 + 1))], (by rw [HWJ.out]), ⟨by have h_ := HREST.out; unfold putD at h_; rw [if_neg (by rw [hmet]; simp)] at h_; exact h_⟩, ⟨by rw [List.getElem?_append_left (List.getElem?_eq_some_iff.1 HE.out).1]; exact HE.out⟩, HJ.out, HG.out.1, ⟨by rw [List.map_append, ← HQS2.out]; exact HQ.out⟩, HD, HB⟩
          · have c1 : decide ((j : Int) < (ls.length : Int)) = false := decide_eq_false (by omega)
            have c2 : decide (j < ls.length) = false := decide_eq_false (by omega)
            have hI := HIN.out
            rw [List.drop_of_length_le (by omega)] at hI
            simp only [depIn] at hI
            obtain rfl := Option.some.inj hI
            have HWI := Lib.hid (show wrap64 ((i : Int) + 1) = ((i + 1 : Nat) : Int) by have := HI.out; unfold wrap64; omega)
            have HIL := Lib.hid (show i + 1 ≤ q2.length from (List.getElem?_eq_some_iff.1 HE.out).1)
            have HQS2 := Aside0.mk hqs2
            clear hI hjl hj hgh HIN hqs2 hql2
            go_wp2
            go_roundg gg
            case measure => exact Nat.lt_succ_self _
            case rel => exact ⟨i + 1, q2, (by rw [HWI.out]), HR, HIL.out, ⟨by rw [← HQS2.out]; exact HQ.out⟩, HD, HB⟩


/-! ### impl_CountDepths: function 22 -/
/-- how often each number occurs -/
def bump (out : List Int) (d : Int) : List Int := let o := out ++ List.replicate (d.toNat + 1 - out.length) 0; o.set d.toNat (wrap64 (o.getD d.toNat 0 + 1))
def impl_CountDepths.f (k : Nat) (a0 : Int) : Option (List Int × Bool) := if 2 ≤ a0 ∧ a0 ≤ 6 then (impl_depths.f k a0).bind fun q => if q.all (fun e => decide (0 ≤ e.2 ∧ e.2 < 1000)) = true then some ((q.map (·.2)).foldl bump [], true) else none else some ([], false)
theorem impl_CountDepths.mono : ∀ a0 k, LeO (impl_CountDepths.f k a0) (impl_CountDepths.f (k + 1) a0) := fun _ _ => LeO.ite (LeO.bind (impl_depths.mono _ _) fun _ => LeO.refl _) (LeO.refl _)
theorem bump_len (out : List Int) (d : Int) : (bump out d).length = max out.length (d.toNat + 1) := by
  unfold bump
  simp
  omega
theorem bump_at (out : List Int) (d : Int) (i : Nat) : (bump out d).getD i 0 = if i = d.toNat then wrap64 (out.getD i 0 + 1) else out.getD i 0 := by
  have pad : ∀ (j m : Nat), (out ++ List.replicate m (0 : Int)).getD j 0 = out.getD j 0 := by
    intro j m
    rw [List.getD_eq_getElem?_getD, List.getD_eq_getElem?_getD, List.getElem?_append]
    by_cases h : j < out.length
    · rw [if_pos h]
    · rw [if_neg h, List.getElem?_replicate, List.getElem?_eq_none (by omega)]
      split <;> rfl
  unfold bump
  simp only []
  rw [List.getD_eq_getElem?_getD, List.getElem?_set]
  by_cases h : d.toNat = i
  · subst h
    rw [if_pos rfl, if_pos rfl, if_pos (by simp; omega), pad]
    rfl
  · rw [if_neg h, if_neg (fun e => h e.symm), ← List.getD_eq_getElem?_getD, pad]
theorem ext_getD {a b : List Int} (hl : a.length = b.length) (h : ∀ i : Nat, a.getD i 0 = b.getD i 0) : a = b := by
  apply List.ext_getElem hl
  intro i h1 h2
  have := h i
  simp only [List.getD_eq_getElem?_getD, List.getElem?_eq_getElem h1, List.getElem?_eq_getElem h2] at this
  exact this
theorem bump_comm (out : List Int) (a b : Int) : bump (bump out a) b = bump (bump out b) a := by
  refine ext_getD ?_ (fun i => ?_)
  · simp only [bump_len]
    omega
  · simp only [bump_at]
    by_cases h1 : i = a.toNat <;> by_cases h2 : i = b.toNat <;> simp only [h1, h2, if_true, if_false] <;> (try simp_all)
theorem bump_perm {l l' : List Int} (h : l.Perm l') : ∀ out, l.foldl bump out = l'.foldl bump out := by
  induction h with
  | nil => intro out; rfl
  | cons x _ ih => intro out; exact ih _
  | swap x y l => intro out; simp only [List.foldl_cons]; rw [bump_comm]
  | trans _ _ ih1 ih2 => intro out; rw [ih1, ih2]
theorem map_nodup : ∀ {l : List (List Int × Int)}, (l.map (·.1)).Nodup → l.Nodup
  | [], _ => List.nodup_nil
  | a :: l, h => by
    rw [List.map_cons, List.nodup_cons] at h
    exact List.nodup_cons.2 ⟨fun hm => h.1 (List.mem_map.2 ⟨a, hm, rfl⟩), map_nodup h.2⟩
theorem map_inj : ∀ {l : List (List Int × Int)}, (l.map (·.1)).Nodup → ∀ {a b : List Int × Int}, a ∈ l → b ∈ l → a.1 = b.1 → a = b
  | c :: l, h, a, b, ha, hb, e => by
    rw [List.map_cons, List.nodup_cons] at h
    rcases List.mem_cons.1 ha with rfl | ha1
    · rcases List.mem_cons.1 hb with rfl | hb1
      · rfl
      · exact absurd (List.mem_map.2 ⟨b, hb1, e.symm⟩) h.1
    · rcases List.mem_cons.1 hb with rfl | hb1
      · exact absurd (List.mem_map.2 ⟨a, ha1, e⟩) h.1
      · exact map_inj h.2 ha1 hb1 e
/-- a map of depths is gone through: what is left -/
def DepR (w : World) (bm r : Nat) (q rest : List (List Int × Int)) (cnt : Nat) : Prop := ∃ (D : DataW Unit) (left : Lit → Bool), w.ranges Tryz.prog 9 (plainElem Tryz.prog 3) bm r q.length D left cnt ∧ DepD D q ∧ (rest.map (·.1)).Nodup ∧ (∀ e, e ∈ rest → e ∈ q) ∧ (∀ kl, left kl = true ↔ ∃ e, e ∈ rest ∧ keyL e.1 = kl)
theorem DepR.kept {w w1 : World} {bm r cnt : Nat} {q rest : List (List Int × Int)} (h : DepR w bm r q rest cnt) {row : Option Nat} (hg : w.grownBy w1 row) (h1 : some bm ≠ row) (h2 : some r ≠ row) : DepR w1 bm r q rest cnt := by
  obtain ⟨D, left, a, b⟩ := h
  exact ⟨D, left, a.kept hg h1 h2, b⟩
theorem DepR.below {w w1 : World} {bm r cnt : Nat} {q rest : List (List Int × Int)} (h : DepR w bm r q rest cnt) (hb : Below w.heap.size w w1) : DepR w1 bm r q rest cnt := h.kept (grown_of_below hb none) (by simp) (by simp)
theorem DepR.lt {w : World} {bm r cnt : Nat} {q rest : List (List Int × Int)} (h : DepR w bm r q rest cnt) : r < w.heap.size ∧ bm < w.heap.size := by
  obtain ⟨D, left, a, b⟩ := h
  exact ⟨a.lt, a.owns.lt⟩
theorem same_str {s t : List UInt8} : (Lit.string s).sameKey (Lit.string t) = decide (s = t) := by
  show (s == t) = _
  by_cases h : s = t <;> simp [h]
section
variable {ops : Array Oper} {rest : List Oper} {o : Oper} {a : Act} {Q : Exit → Act → World → Prop} {W : World}
theorem dep_range (m : Operand) (hop : o.op = .range 66 m) (hgd : o.guard = none) (bm : Nat) (q : List (List Int × Int)) (hm : a.eval m = .map (some bm)) (hD : Dep W bm q)
    (h : ∀ w1 r cnt, r = W.heap.size → DepR w1 bm r q q cnt → Below W.heap.size W w1 → wpList Tryz.prog ops Q rest (a.put o.dst (.pointer (some ⟨r, 0, none⟩))) w1) : wpList Tryz.prog ops Q (o :: rest) a W := by
  obtain ⟨D, h1, h2⟩ := hD
  refine wpList_range_own W hgd m 66 hop 9 3 str_keyed Tryz.underlying66 _ bm _ D hm h1 (fun w1 hr hg hs => ?_)
  refine h w1 _ _ rfl ⟨D, _, hr, h2, h2.2.2.2.2, fun _ he => he, fun kl => ⟨h2.2.2.2.1 kl, ?_⟩⟩ (pw_below_grown (Below.refl _ _) none (Nat.le_refl _) hg (by simp))
  rintro ⟨e, he, rfl⟩
  rw [h2.2.1 _ (h2.2.2.1 e he).1, List.any_eq_true]
  exact ⟨e, he, decide_eq_true rfl⟩
set_option maxRecDepth 100000 in
theorem dep_next (it : Operand) (hop : o.op = .next it false) (hgd : o.guard = none) (bm r cnt : Nat) (q left : List (List Int × Int)) (hit : a.eval it = .pointer (some ⟨r, 0, none⟩)) (hD : DepR W bm r q left cnt)
    (hDone : left = [] → wpList Tryz.prog ops Q rest (a.put o.dst (.tuple #[.bool false])) W)
    (hMore : ∀ (e : List Int × Int) (s : ByteArray) (w1 : World) (cnt' : Nat), e ∈ left → cnt' < cnt → DepR w1 bm r q (left.erase e) cnt' → W.grownBy w1 (some r) → w1.heap.size = W.heap.size → (Instr.entry (.pointer (some ⟨r, 0, none⟩))).run Tryz.prog w1 = .ok (.tuple #[.string s, .int .i64 e.2]) w1 →
      wpList Tryz.prog ops Q rest (a.put o.dst (.tuple #[.bool true, .string s, .int .i64 e.2])) w1) : wpList Tryz.prog ops Q (o :: rest) a W := by
  obtain ⟨D, lf, h1, h2, h3, h4, h5⟩ := hD
  refine wpList_next_ranges W hgd it hop 9 str_keyed (plainElem Tryz.prog 3) Value.string (Value.int .i64) (fun key kl hkey => ?_) (fun v y hv => ?_) bm r _ D lf cnt hit h1 (fun h0 hl => ?_) (fun x c kl y w' cnt' hkey hlk hv hat hrg hlt hgr hsz hen => ?_)
  · cases key <;> simp [keyOf, mapKey, Tryz.underlying9] at hkey
    exact ⟨_, rfl⟩
  · obtain ⟨c, rfl, _⟩ := plainElem_int_inv Tryz.underlying3 hv
    exact ⟨c, rfl⟩
  · refine hDone ?_
    cases left with
    | nil => rfl
    | cons e left =>
      have := (h5 (keyL e.1)).2 ⟨e, by simp, rfl⟩
      rw [hl] at this
      cases this
  · obtain ⟨e, he, hk⟩ := (h5 kl).1 hlk
    obtain ⟨c', ec, hy, _⟩ := plainElem_int_inv Tryz.underlying3 hv
    injection ec with _ ec
    subst ec
    have h6 := (h2.2.2.1 e (h4 e he)).2 (.lit (.int .i64 0))
    rw [hk, hat, hy] at h6
    have h7 : c = e.2 := by
      injection h6 with h6
      injection h6 with _ h6
    subst h7
    have hinj : ∀ e', e' ∈ left → keyL e'.1 = keyL e.1 → e' = e := by
      intro e' he' hk'
      have e1 := keyL_inj (h2.2.2.1 e' (h4 e' he')).1 (h2.2.2.1 e (h4 e he)).1 hk'
      exact map_inj h3 he' he e1
    have hnd : left.Nodup := by
      exact map_nodup h3
    refine hMore e x w' cnt' he hlt ⟨D, _, hrg, h2, ?_, fun z hz => h4 z (List.mem_of_mem_erase hz), fun z => ?_⟩ hgr hsz hen
    · exact List.Nodup.sublist (List.Sublist.map _ (List.erase_sublist ..)) h3
    · rw [Bool.and_eq_true, h5 z]
      constructor
      · rintro ⟨⟨e', he', rfl⟩, hs⟩
        refine ⟨e', (List.Nodup.mem_erase_iff hnd).2 ⟨fun ee => ?_, he'⟩, rfl⟩
        subst ee
        rw [← hk] at hs
        unfold keyL at hs
        rw [same_str] at hs
        simp at hs
      · rintro ⟨e', he', rfl⟩
        obtain ⟨hne, hm⟩ := (List.Nodup.mem_erase_iff hnd).1 he'
        refine ⟨⟨e', hm, rfl⟩, ?_⟩
        rw [← hk]
        unfold keyL
        rw [same_str, decide_eq_false (fun ee => hne (hinj e' hm (by unfold keyL; rw [ee])))]
        rfl
end
set_option maxHeartbeats 4000000 in
set_option maxRecDepth 100000 in
theorem impl_CountDepths.calls (k : Nat) (a0 : Int) (r1 : List Int) (r2 : Bool) (w : World) (h : impl_CountDepths.f k a0 = some (r1, r2)) :
 Calls Tryz.prog 22 #[.int .i64 a0] w fun e w' => ∃ v0_ : Value, e = .returned (.tuple #[v0_, .bool r2]) ∧ Kd.R (Kd.int .i64) 3 w' w.heap.size (fun _ => True) v0_ r1 ∧ Below w.heap.size w w' := by
  unfold impl_CountDepths.f at h
  by_cases hn : 2 ≤ a0 ∧ a0 ≤ 6
  case neg =>
    rw [if_neg hn] at h
    simp only [Option.some.injEq, Prod.mk.injEq] at h
    obtain ⟨rfl, rfl⟩ := h
    have hb : impl_between.f a0 2 6 = some false := by
      unfold impl_between.f
      split
      · rename_i h; simp; omega
      · rfl
    have HW := Aside0.mk hb
    clear hn hb
    go_enter Tryz.func22, Tryz.ntmps22
    go_wp2_with (first | (go_at_call 37; refine (impl_between.calls a0 2 6 false _ HW.out).mono ?_; rintro e w' ⟨rfl, ⟨q, rfl⟩⟩))
    go_ret2
    exact ⟨_, rfl, Kd.R_nil _ _ _ _ _, pw_below_drewN (Below.refl _ _) _⟩
  case pos =>
    rw [if_pos hn] at h
    replace h := Option.bind_eq_some_iff.mp h
    obtain ⟨q, hq, h⟩ := h
    by_cases hall : q.all (fun e => decide (0 ≤ e.2 ∧ e.2 < 1000)) = true
    case neg => rw [if_neg hall] at h; cases h
    rw [if_pos hall] at h
    simp only [Option.some.injEq, Prod.mk.injEq] at h
    obtain ⟨rfl, rfl⟩ := h
    have hb : impl_between.f a0 2 6 = some true := by
      unfold impl_between.f
      rw [if_pos hn.1]
      simp [hn.2]
    have HW := Aside0.mk hb
    have HQ := Aside0.mk hq
    have HA := Aside0.mk hall
    clear hn hb hq hall
    go_enter Tryz.func22, Tryz.ntmps22
    go_wp2_with (first | (go_at_call 37; refine (impl_between.calls a0 2 6 true _ HW.out).mono ?_; rintro e w0 ⟨rfl, ⟨qq, rfl⟩⟩) | ((with_reducible refine gate_dst (N := 10) rfl ?_); refine Kd.R_lit (Kd.int .i64) _ 3 ?hg (N := 10) ?hd (xs := ([] : List (Int))) (inner := []) (ok := fun _ => True) (okp := fun _ => True) ?hr ?hp (fun _ hk => hk) trivial (Below.refl _ _) (Nat.le_refl _) (by simp) ?_; (case hd => rfl); (case hg => rfl); (case hr => first | (go_simp; done) | (go_simp; rfl)); (case hp => exact (Reps.none _ _)); intro v1 w1 ho hb hg_ hnew_; clear hg_ hnew_; have HO := Aside0.mk (Kd.R_lower ho (show w.heap.size ≤ (w.drewN qq).heap.size from Nat.le_refl _)); have HB := Aside0.mk (below_step (pw_below_drewN (Below.refl w.heap.size w) qq) hb); clear ho hb) | ((with_reducible refine gate_callee (f := 45) rfl ?_); refine goesL_ (some 12) rfl rfl Tryz.func45 (by kernel_rfl) rfl #[.int .i64 a0] rfl (by (try simp only [List.map_toArray, List.map_cons, List.map_nil]); first | done | rfl) ?_; (with_reducible refine (impl_depths.calls k a0 q _ HQ.out).mono ?_); rintro e w2 ⟨bm, rfl, hbm, hD, hb⟩; refine ⟨_, rfl, ?_⟩; have HD := Aside0.mk hD; have HNE := Aside0.mk (fun k_ (e_ : v1.ownBlock = some k_) => Nat.lt_of_lt_of_le (Kd.R_lt HO.out k_ e_) hbm); replace HO := Aside0.mk (Kd.R_below HO.out hb); have HBM := Aside0.mk (Nat.le_trans HB.out.size hbm); replace HB := Aside0.mk (below_step HB.out hb); clear hbm hD hb) | ((with_reducible refine gate_dst (N := 13) rfl ?_); refine dep_range (.tmp 12) rfl rfl bm q rfl HD.out ?_; intro w3 ri cnt hri hR hb; have HR := Aside0.mk hR; have HNR := Aside0.mk (fun k_ (e_ : v1.ownBlock = some k_) => Nat.lt_of_lt_of_le (Kd.R_lt HO.out k_ e_) (Nat.le_of_eq hri.symm)); replace HO := Aside0.mk (Kd.R_below HO.out hb); have HRI := Aside0.mk (Nat.le_trans HB.out.size (Nat.le_of_eq hri.symm)); replace HB := Aside0.mk (below_step HB.out hb); clear hri hR hb))
    replace HO := Aside0.mk (Kd.R_reok (ok := fun k_ => k_ ≠ bm ∧ k_ ≠ ri) rfl HO.out (fun k_ e_ => ⟨Nat.ne_of_lt (HNE.out k_ e_), Nat.ne_of_lt (HNR.out k_ e_)⟩))
    go_frame
    go_loopg [4] cnt (fun g v4 wr => ∃ (vis left : List (List Int × Int)), Aside0 ((vis ++ left).Perm q) ∧ Aside0 (DepR wr bm ri q left g) ∧ Aside0 (Kd.R (Kd.int .i64) 3 wr w.heap.size (fun k_ => k_ ≠ bm ∧ k_ ≠ ri) v4 ((vis.map (·.2)).foldl bump [])) ∧ Aside0 (Below w.heap.size w wr))
    case atStart => exact ⟨[], q, ⟨List.Perm.refl _⟩, HR, HO, HB⟩
    case round =>
      clear HO HB HR HD HNE HNR
      obtain ⟨vis, left, HP, HR, HO, HB⟩ := hrel
      go_wp2_with (first | ((with_reducible refine gate_dst (N := 14) rfl ?_); refine dep_next (.tmp 13) rfl rfl bm ri gk q left rfl HR.out ?_ ?_))
      · intro hl
        subst hl
        go_wp2
        go_ret2
        exact ⟨_, rfl, by rw [bump_perm ((HP.out.symm.trans (by rw [List.append_nil])).map (·.2))]; exact Kd.R_mono HO.out (fun _ _ => trivial), HB.out⟩
      · intro x v s w4 cnt' he hlt hR hg hsz hen
        have hmem : (x, v) ∈ q := HP.out.mem_iff.1 (List.mem_append.2 (.inr he))
        have hd := HA.out
        rw [List.all_eq_true] at hd
        have hd2 := of_decide_eq_true (hd (x, v) hmem)
        simp only at hd2 hen
        obtain ⟨d, rfl⟩ : ∃ d : Nat, v = (d : Int) := ⟨v.toNat, by omega⟩
        obtain ⟨o0, ho0⟩ : ∃ o0, o0 = (vis.map (·.2)).foldl bump [] := ⟨_, rfl⟩
        rw [← ho0] at HO
        have HO0 := Aside0.mk ho0
        replace HO := Aside0.mk (Kd.R_grown HO.out hg (fun k_ h_ e_ => h_.2 (by injection e_)))
        replace HB := Aside0.mk (pw_below_grown HB.out (some ri) HB.out.size hg (by intro k e; injection e with e; rw [← e]; exact HRI.out))
        have HP2 := Aside0.mk (show ((vis ++ [(x, (d : Int))]) ++ left.erase (x, (d : Int))).Perm q from by
          rw [List.append_assoc]
          exact (List.Perm.append_left vis (List.perm_cons_erase he).symm).trans HP.out)
        have HLT := Lib.hid hlt
        have HD3 := Lib.hid (show d < 1000 by omega)
        clear HR hg hsz hlt he hmem hd hd2 HP ho0
        have HR := Aside0.mk hR
        clear hR
        go_wp2
        go_loopg [4] (d + 1) (fun gh v4 wr => ∃ m : Nat, m ≤ d + 1 - o0.length ∧ (d + 1 - o0.length) - m ≤ gh ∧ Aside0 (DepR wr bm ri q (left.erase (x, (d : Int))) cnt') ∧ Aside0 (Kd.R (Kd.int .i64) 3 wr w.heap.size (fun k_ => k_ ≠ bm ∧ k_ ≠ ri) v4 (o0 ++ List.replicate m 0)) ∧ Aside0 (Below w.heap.size w wr))
        case atStart => exact ⟨0, Nat.zero_le _, by omega, HR, ⟨by simpa using HO.out⟩, HB⟩
        case round =>
          clear HR HO HB hen
          obtain ⟨m, hm, hg, HR, HO, HB⟩ := hrel
          obtain ⟨Ao, co, eo⟩ := Kd.R_slice HO.out
          subst eo
          obtain ⟨o, ho⟩ : ∃ o, o = o0 ++ List.replicate m (0 : Int) := ⟨_, rfl⟩
          rw [← ho] at HO ⊢
          have hol : o.length = o0.length + m := by rw [ho]; simp
          have HOE := Aside0.mk ho
          by_cases hlt : o.length ≤ d
          · have c1 : decide ((o.length : Int) ≤ (d : Int)) = true := decide_eq_true (by omega)
            have c2 : decide (o.length ≤ d) = true := decide_eq_true hlt
            have HM := Lib.hid (show m + 1 ≤ d + 1 - o0.length ∧ d + 1 - o0.length - (m + 1) ≤ gk - 1 ∧ gk - 1 < gk by omega)
            have HL := Lib.hid (show o.length < 1000 by have := HD3.out; omega)
            clear hm hg hol hlt ho
            go_wp2_with (first | ((with_reducible refine gate_builtin (b := .append) (xs := #[.tmp 22, .tmp 23]) rfl ?_); at_builtin; refine Kd.R_append (Kd.int .i64) (w0 := w) w.heap.size rfl (.tmp 22) (.tmp 23) 31 3 (.int .i64 0) 8 rfl Tryz.underlying31 info3 rfl (by decide) (by omega) (.slice Ao o.length co) o 0 [.int .i64 0] (fun k_ => k_ ≠ bm ∧ k_ ≠ ri) (fun _ => False) rfl rfl rfl (fun _ hk => hk.elim) (fun k_ hk_ => ⟨fun e_ => by have := HR.out.lt; omega, fun e_ => by have := HR.out.lt; omega⟩) HO.out HB.out HB.out.size (by have := HL.out; omega) ?_; intro v5 w5 ho hb hg hat; replace HR := Aside0.mk (HR.out.kept hg (fun e_ => (HO.out.1 bm e_.symm).1 rfl) (fun e_ => (HO.out.1 ri e_.symm).2 rfl)); replace HO := Aside0.mk ho; replace HB := Aside0.mk hb; clear ho hb hg hat))
            go_roundg (gk - 1)
            case measure => exact HM.out.2.2
            case rel => exact ⟨m + 1, HM.out.1, HM.out.2.1, HR, ⟨by rw [List.replicate_succ', ← List.append_assoc, ← HOE.out]; exact HO.out⟩, HB⟩
          · have c1 : decide ((o.length : Int) ≤ (d : Int)) = false := decide_eq_false (by omega)
            have c2 : decide (o.length ≤ d) = false := decide_eq_false hlt
            have hb1 : (((vis ++ [(x, (d : Int))]).map (·.2)).foldl bump []) = o.set d (wrap64 (rd o (d : Int) + 1)) := by
              rw [List.map_append, List.foldl_append, ← HO0.out]
              show bump o0 (d : Int) = _
              unfold bump rd
              simp only [Int.toNat_natCast]
              rw [ho, show m = d + 1 - o0.length by omega]
            have HBU := Aside0.mk hb1
            have p16 : 0 ≤ ((d : Nat) : Int) := by omega
            have q16 : ((d : Nat) : Int) < (o.length : Int) := by omega
            obtain ⟨go16, co16, eo16, gb16, gl16, cl16, HG16⟩ := Kd.R_form HO.out (by omega)
            (first | cases eo16 | (injection eo16 with ea_ en_ ec_; (first | subst ea_ | (injection ea_ with ea_; subst ea_)); subst ec_; clear en_))
            have GB16 := Aside0.mk gb16
            have GG16 := Aside0.mk HG16
            clear gb16 gl16 HG16
            obtain ⟨hx16_0, hf16_0⟩ := Kd.R_celln 0 HO.out ((d : Nat) : Int) p16 q16
            replace p16 := eq_true p16
            replace q16 := eq_true q16
            have HP18 := Kd.R_putg HO.out ((d : Nat) : Int) (wrap64 (rd o (d : Int) + 1))
            simp only [Int.toNat_natCast] at hx16_0 hf16_0 HP18
            clear hm hg hol hlt ho hb1
            go_wp2_with (first | ((with_reducible refine gate_store (t := 3) (p := 30) rfl ?_); refine store_event (t := 3) (p := 30) (v := ?vo) (w1 := (wr.setCell ⟨go16, d, none⟩ (.int .i64 (wrap64 (rd o (d : Int) + 1))))) ?hg ?ho ?hn ?hr ?_; (case ho => rfl); (case hg => rfl); (case hn => rfl); (case hr => first | (go_simp; done) | (go_simp; rfl)); intro w19 hw; have hg : wr.grownBy w19 (some go16) := (by rw [hw]; exact HP18.2); have hp_ : Kd.R (Kd.int .i64) 3 w19 w.heap.size (fun k_ => k_ ≠ bm ∧ k_ ≠ ri) (.slice (some ⟨go16, 0, none⟩) o.length co) (o.set d (wrap64 (rd o (d : Int) + 1))) := (by rw [hw]; exact HP18.1); clear HP18; replace HR := Aside0.mk (HR.out.kept hg (fun e_ => (HO.out.1 bm e_.symm).1 rfl) (fun e_ => (HO.out.1 ri e_.symm).2 rfl)); replace HO := Aside0.mk hp_; replace HB := Aside0.mk (by rw [hw]; exact below_set (HB.out) GB16.out : Below w.heap.size w w19); clear hg hw hp_))
            go_roundg cnt'
            case measure => exact HLT.out
            case rel => exact ⟨vis ++ [(x, (d : Int))], left.erase (x, (d : Int)), HP2, HR, ⟨by rw [HBU.out]; exact HO.out⟩, HB⟩


/-! ### spec_l1Has: function 78 -/
def spec_l1Has.l0 : Nat → Int → List Int → Int → Int → Option (Bool)
 | 0, _, _, _, _ => none
 | k + 1, x1, x7, x8, x9 => if x9 < x8 then (if 0 ≤ x9 then (if x9 < (x7.length : Int) then (if (rd x7 x9) = x1 then (some true) else (spec_l1Has.l0 k x1 x7 x8 (wrap64 (x9 + 1)))) else (none)) else (none)) else (some false)
def spec_l1Has.f (k : Nat) (l0 : List Int) (a1 : Int) : Option (Bool) := spec_l1Has.l0 k a1 l0 (l0.length : Int) 0
theorem spec_l1Has.mono_l : ∀ k, (∀ y0 y1 y2 y3, LeO (spec_l1Has.l0 k y0 y1 y2 y3) (spec_l1Has.l0 (k + 1) y0 y1 y2 y3))
 | 0 => fun _ _ _ _ r h => by simp [spec_l1Has.l0] at h
 | k + 1 => by
  have ih0 := spec_l1Has.mono_l k
  ·intro y0 y1 y2 y3
   unfold spec_l1Has.l0
   repeat' first
   | (with_reducible exact ih0 _ _ _ _)
   | (with_reducible exact LeO.refl _)
   | (with_reducible exact LeO.none _)
   | (with_reducible refine LeO.ite ?_ ?_)
   | (with_reducible refine LeO.bind ?_ (fun _ => ?_))
   | exact LeO.none _
   | refine LeO.ite ?_ ?_
   | refine LeO.bind ?_ (fun _ => ?_)
theorem spec_l1Has.mono : ∀ a0 a1 k, LeO (spec_l1Has.f k a0 a1) (spec_l1Has.f (k + 1) a0 a1) := by
 intro a0 a1 k
 have ih0 := spec_l1Has.mono_l k
 unfold spec_l1Has.f
 repeat' first
  | (with_reducible exact ih0 _ _ _ _)
  | (with_reducible exact LeO.refl _)
  | (with_reducible exact LeO.none _)
  | (with_reducible refine LeO.ite ?_ ?_)
  | (with_reducible refine LeO.bind ?_ (fun _ => ?_))
  | exact LeO.none _
  | refine LeO.ite ?_ ?_
  | refine LeO.bind ?_ (fun _ => ?_)
set_option maxHeartbeats 8000000 in
set_option maxRecDepth 100000 in
theorem spec_l1Has.calls (k : Nat) (A0 : Option Addr) (c0 : Nat) (l0 : List Int) (a1 : Int) (r : Bool) (w : World) (hr0 : Kd.C (Kd.int .i64) w A0 l0.length l0) (hc0 : l0.length ≤ c0) (h : spec_l1Has.f k l0 a1 = some r) :
 Calls Tryz.prog 78 #[.slice A0 l0.length c0, .int .i64 a1] w fun e w' => e = .returned (.bool r) ∧ Drawn0 w w' := by
 have HR0 := a_ hr0
 have HC0 := a_ hc0
 clear hr0 hc0
 have H : (spec_l1Has.l0 k a1 l0 (l0.length : Int) 0) = some r := h
 clear h
 have H' := a_ H
 clear H
 go_enter Tryz.func78, Tryz.ntmps78
 go_wp2
 go_loopg [9] k (fun kq v9 w' => ∃ (x9_1 : Int), v9 = .int .i64 x9_1 ∧ Aside0 (spec_l1Has.l0 kq a1 l0 (l0.length : Int) x9_1 = some r) ∧ Aside0 (kq ≤ k) ∧ Drawn0 w w')
 case atStart => exact ⟨(0), rs_, H', ⟨Nat.le_refl _⟩, dr_⟩
 case round =>
  clear H'
  try clear p2
  obtain ⟨x9_1, rfl, HA, HK1, ⟨m1, rfl⟩⟩ := hrel
  cases gk with
  | zero => exact absurd HA.out (by simp [spec_l1Has.l0])
  | succ k1 =>
   have H := HA.out
   clear HA
   simp only [spec_l1Has.l0] at H
   by_cases c3 : x9_1 < (l0.length : Int)
   rotate_left
   ·rw [if_neg c3] at H
    have c3b0 : decide (x9_1 < (l0.length : Int)) = false := decide_eq_false c3
    clear c3
    obtain rfl := Option.some.inj H
    go_wp2
    go_ret
    exact ⟨rs_, dr_⟩
   rw [if_pos c3] at H
   have c3b0 : decide (x9_1 < (l0.length : Int)) = true := decide_eq_true c3
   clear c3
   by_cases c4 : 0 ≤ x9_1
   rotate_left
   ·rw [if_neg c4] at H
    cases H
   rw [if_pos c4] at H
   have c4b0 : decide (0 ≤ x9_1) = true := decide_eq_true c4
   clear c4
   by_cases c5 : x9_1 < (l0.length : Int)
   rotate_left
   ·rw [if_neg c5] at H
    cases H
   rw [if_pos c5] at H
   have c5b0 : decide (x9_1 < (l0.length : Int)) = true := decide_eq_true c5
   clear c5
   by_cases c6 : (rd l0 x9_1) = a1
   ·rw [if_pos c6] at H
    have c6b0 : ((rd l0 x9_1) == a1) = true := beq_iff_eq.mpr c6
    have c6b1 : ((rd l0 x9_1) != a1) = false := bne_eq_false_iff_eq.mpr c6
    clear c6
    obtain rfl := Option.some.inj H
    have p319 : 0 ≤ (x9_1 : Int) := od_
    have q319 : x9_1 < (l0.length : Int) := od_
    obtain ⟨ad319, e319, hx319_0⟩ := Kd.at_int HR0.out x9_1 p319 q319
    cases e319
    replace p319 := eq_true p319
    replace q319 := eq_true q319
    go_wp2
    go_ret
    exact ⟨rs_, dr_⟩
   rw [if_neg c6] at H
   have c6b0 : ((rd l0 x9_1) == a1) = false := beq_eq_false_iff_ne.mpr c6
   have c6b1 : ((rd l0 x9_1) != a1) = true := bne_iff_ne.mpr c6
   have H' := a_ H
   clear H
   have p319 : 0 ≤ (x9_1 : Int) := od_
   have q319 : x9_1 < (l0.length : Int) := od_
   obtain ⟨ad319, e319, hx319_0⟩ := Kd.at_int HR0.out x9_1 p319 q319
   cases e319
   replace p319 := eq_true p319
   replace q319 := eq_true q319
   go_wp2
   go_roundg k1
   case measure => have := HK1.out; omega
   case rel => exact ⟨(wrap64 (x9_1 + 1)), rs_, H', ⟨by have := HK1.out; omega⟩, dr_⟩

/-! ### spec_l1Own: function 79 -/
def spec_l1Own.f (l0 : List Int) : Option (List Int) := (some (([] : List Int) : List Int)).bind fun y320 => (if y320.length + l0.length < 17592186044416 then (some (y320 ++ l0)) else (none))
set_option maxHeartbeats 8000000 in
set_option maxRecDepth 100000 in
theorem spec_l1Own.calls (A0 : Option Addr) (c0 : Nat) (l0 : List Int) (r : List Int) (w : World) (hr0 : Kd.C (Kd.int .i64) w A0 l0.length l0) (hc0 : l0.length ≤ c0) (h : spec_l1Own.f l0 = some r) :
 Calls Tryz.prog 79 #[.slice A0 l0.length c0] w fun e w' => ∃ v0_ : Value, e = .returned (v0_) ∧ Kd.R (Kd.int .i64) 3 w' w.heap.size (fun _ => True) v0_ r ∧ Below w.heap.size w w' := by
 have HR0 := a_ hr0
 have HC0 := a_ hc0
 clear hr0 hc0
 have HB := a_ (Below.refl w.heap.size w)
 have H : ((some (([] : List Int) : List Int)).bind fun y320 => (if y320.length + l0.length < 17592186044416 then (some (y320 ++ l0)) else (none))) = some r := h
 clear h
 obtain ⟨y320, hy320⟩ : ∃ y_ : List Int, y_ = (([] : List Int)) := ⟨_, rfl⟩
 replace H : (if y320.length + l0.length < 17592186044416 then (some (y320 ++ l0)) else (none)) = some r := by first | (rw [hy320]; with_reducible exact H) | (have H2_ := (Option.bind_some _ _).symm.trans H; rw [hy320]; with_reducible exact H2_) | (have H2_ := (Option.bind_some _ _).symm.trans H; with_reducible exact H2_) | with_reducible exact H | (rw [hy320]; exact H) | exact H
 have Ny320 := a_ hy320
 clear hy320
 by_cases c2 : y320.length + l0.length < 17592186044416
 rotate_left
 ·rw [if_neg c2] at H
  cases H
 rw [if_pos c2] at H
 have LMc2 := a_ c2
 clear c2
 obtain ⟨y323, hy323⟩ : ∃ y_ : List Int, y_ = (y320 ++ l0) := ⟨_, rfl⟩
 replace H : (some y323) = some r := by first | (rw [hy323]; with_reducible exact H) | (have H2_ := (Option.bind_some _ _).symm.trans H; rw [hy323]; with_reducible exact H2_) | (have H2_ := (Option.bind_some _ _).symm.trans H; with_reducible exact H2_) | with_reducible exact H | (rw [hy323]; exact H) | exact H
 have Ny323 := a_ hy323
 clear hy323
 obtain rfl := Option.some.inj H
 go_enter Tryz.func79, Tryz.ntmps79
 go_wp2_with (first | ((with_reducible refine gate_dst (N := 3) rfl ?_); refine Kd.R_lit (Kd.int .i64) _ 3 ?hg (N := 3) ?hd (xs := ([] : List Int)) (inner := []) (ok := fun _ => True) (okp := fun _ => True) ?hr ?hp (fun _ hk => hk) trivial (Below.refl _ _) (Nat.le_refl _) (by simp) ?_; (case hd => rfl); (case hg => rfl); (case hr => first | (go_simp; done) | (go_simp; rfl)); (case hp => exact (Reps.none _ _)); intro v321 w3 ho4 hb hg_ hnew_; clear hg_ hnew_; (first | rw [← Ny320.out] at ho4 | (simp only [Int.reduceToNat] at ho4; rw [← Ny320.out] at ho4)); have HO322 := a_ (Kd.R_lower ho4 (below_size (Bl_ HB))); replace HB := Bs_ HB hb; clear hb ho4) | ((with_reducible refine gate_builtin (b := .append) (xs := #[.tmp 3, .tmp 4]) rfl ?_); at_builtin; refine Kd.R_append_rows (Kd.int .i64) (w0 := w) w.heap.size rfl (.tmp 3) (.tmp 4) 31 3 (.int .i64 0) 8 rfl Tryz.underlying31 info3 rfl (by decide) (by omega) v321 y320 l0 _ _ _ (fun _ => True) (fun _ => False) rfl rfl ?aO ?aR (fun _ _ h => h) (fun _ h => h.elim) ?aF ?aB ?aS ?aL ?_; (case aR => exact Cl_ (Kd.C_below HR0.out HB.out)); (case aB => exact (Bl_ HB)); (case aF => exact (fun _ _ => trivial)); (case aO => exact (Rl_ HO322.out)); (case aS => exact (below_size (Bl_ HB))); (case aL => have := LMc2.out; omega); intro v324 w5 ho hb hg hat; rw [← Ny323.out] at ho; replace HB := a_ (hb); have HO325 := a_ (ho); clear HO322; clear ho hb hg hat))
 go_ret
 exact ⟨_, re_, by (with_reducible repeat (first | apply Kd.R_alloc | apply Kd.R_drewN | apply Kd.R_drew)); exact HO325.out, Bl_ HB⟩

/-! ### spec_alOrders: function 66 -/
mutual
def spec_alOrders.l0 : Nat → Int → List (List Int) → Option ((List (List Int)))
 | 0, _, _ => none
 | k + 1, x0, x3 => if 0 < (x3.length : Int) then (if ((rd_L2 x3 0).length : Int) < x0 then (spec_alOrders.l1 k x0 ([] : List (List Int)) x3 (x3.length : Int) 0) else (some x3)) else (none)
def spec_alOrders.l1 : Nat → Int → List (List Int) → List (List Int) → Int → Int → Option ((List (List Int)))
 | 0, _, _, _, _, _ => none
 | k + 1, x0, x4, x15, x16, x17 => if x17 < x16 then (if 0 ≤ x17 then (if x17 < (x15.length : Int) then (spec_alOrders.l2 k x0 x4 (rd_L2 x15 x17) 0 x15 x16 x17) else (none)) else (none)) else (spec_alOrders.l0 k x0 x4)
def spec_alOrders.l2 : Nat → Int → List (List Int) → List Int → Int → List (List Int) → Int → Int → Option ((List (List Int)))
 | 0, _, _, _, _, _, _, _ => none
 | k + 1, x0, x4, x6, x7, x15, x16, x17 => if x7 < x0 then ((spec_l1Has.f k x6 x7).bind fun t331 => (if t331 = true then (spec_alOrders.l2 k x0 x4 x6 (wrap64 (x7 + 1)) x15 x16 x17) else ((spec_l1Own.f x6).bind fun t332 => (if t332.length < 17592186044416 then (if x4.length < 5864062014805 then (spec_alOrders.l2 k x0 (x4 ++ [(t332 ++ [x7])]) x6 (wrap64 (x7 + 1)) x15 x16 x17) else (none)) else (none))))) else (spec_alOrders.l1 k x0 x4 x15 x16 (wrap64 (x17 + 1)))
end
def spec_alOrders.f (k : Nat) (a0 : Int) : Option ((List (List Int))) := spec_alOrders.l0 k a0 (([[]] : List (List Int)))
theorem spec_alOrders.mono_l : ∀ k, (∀ y0 y1, LeO (spec_alOrders.l0 k y0 y1) (spec_alOrders.l0 (k + 1) y0 y1)) ∧ (∀ y0 y1 y2 y3 y4, LeO (spec_alOrders.l1 k y0 y1 y2 y3 y4) (spec_alOrders.l1 (k + 1) y0 y1 y2 y3 y4)) ∧ (∀ y0 y1 y2 y3 y4 y5 y6, LeO (spec_alOrders.l2 k y0 y1 y2 y3 y4 y5 y6) (spec_alOrders.l2 (k + 1) y0 y1 y2 y3 y4 y5 y6))
 | 0 => ⟨fun _ _ r h => by simp [spec_alOrders.l0] at h, fun _ _ _ _ _ r h => by simp [spec_alOrders.l1] at h, fun _ _ _ _ _ _ _ r h => by simp [spec_alOrders.l2] at h⟩
 | k + 1 => by
  obtain ⟨ih0, ih1, ih2⟩ := spec_alOrders.mono_l k
  refine ⟨?_, ?_, ?_⟩
  ·intro y0 y1
   unfold spec_alOrders.l0
   repeat' first
   | (with_reducible exact ih1 _ _ _ _ _)
   | (with_reducible exact LeO.refl _)
   | (with_reducible exact LeO.none _)
   | (with_reducible refine LeO.ite ?_ ?_)
   | (with_reducible refine LeO.bind ?_ (fun _ => ?_))
   | exact LeO.none _
   | refine LeO.ite ?_ ?_
   | refine LeO.bind ?_ (fun _ => ?_)
  ·intro y0 y1 y2 y3 y4
   unfold spec_alOrders.l1
   repeat' first
   | (with_reducible exact ih0 _ _)
   | (with_reducible exact ih2 _ _ _ _ _ _ _)
   | (with_reducible exact LeO.refl _)
   | (with_reducible exact LeO.none _)
   | (with_reducible refine LeO.ite ?_ ?_)
   | (with_reducible refine LeO.bind ?_ (fun _ => ?_))
   | exact LeO.none _
   | refine LeO.ite ?_ ?_
   | refine LeO.bind ?_ (fun _ => ?_)
  ·intro y0 y1 y2 y3 y4 y5 y6
   unfold spec_alOrders.l2
   repeat' first
   | (with_reducible exact ih1 _ _ _ _ _)
   | (with_reducible exact ih2 _ _ _ _ _ _ _)
   | (with_reducible exact spec_l1Has.mono _ _ _)
   | (with_reducible exact LeO.refl _)
   | (with_reducible exact LeO.none _)
   | (with_reducible refine LeO.ite ?_ ?_)
   | (with_reducible refine LeO.bind ?_ (fun _ => ?_))
   | exact LeO.none _
   | refine LeO.ite ?_ ?_
   | refine LeO.bind ?_ (fun _ => ?_)
theorem spec_alOrders.mono : ∀ a0 k, LeO (spec_alOrders.f k a0) (spec_alOrders.f (k + 1) a0) := by
 intro a0 k
 obtain ⟨ih0, ih1, ih2⟩ := spec_alOrders.mono_l k
 unfold spec_alOrders.f
 repeat' first
  | (with_reducible exact ih0 _ _)
  | (with_reducible exact LeO.refl _)
  | (with_reducible exact LeO.none _)
  | (with_reducible refine LeO.ite ?_ ?_)
  | (with_reducible refine LeO.bind ?_ (fun _ => ?_))
  | exact LeO.none _
  | refine LeO.ite ?_ ?_
  | refine LeO.bind ?_ (fun _ => ?_)
set_option maxHeartbeats 8000000 in
set_option maxRecDepth 100000 in
theorem spec_alOrders.calls (k : Nat) (a0 : Int) (r : List (List Int)) (w : World) (h : spec_alOrders.f k a0 = some r) :
 Calls Tryz.prog 66 #[.int .i64 a0] w fun e w' => ∃ v0_ : Value, e = .returned (v0_) ∧ Kd.S (Kd.slice 3 (Kd.int .i64)) 31 w' w.heap.size (fun _ => True) v0_ r ∧ Below w.heap.size w w' := by
 have HB := a_ (Below.refl w.heap.size w)
 have H : (spec_alOrders.l0 k a0 (([[]] : List (List Int)))) = some r := h
 clear h
 obtain ⟨y326, hy326⟩ : ∃ y_ : List (List Int), y_ = (([[]] : List (List Int))) := ⟨_, rfl⟩
 replace H : (spec_alOrders.l0 k a0 y326) = some r := by first | (rw [hy326]; with_reducible exact H) | (have H2_ := (Option.bind_some _ _).symm.trans H; rw [hy326]; with_reducible exact H2_) | (have H2_ := (Option.bind_some _ _).symm.trans H; with_reducible exact H2_) | with_reducible exact H | (rw [hy326]; exact H) | exact H
 have Ny326 := a_ hy326
 clear hy326
 have H' := a_ H
 clear H
 go_enter Tryz.func66, Tryz.ntmps66
 go_wp2_with (first | ((with_reducible refine gate_dst (N := 8) rfl ?_); refine Kd.S_lit (Kd.slice 3 (Kd.int .i64)) _ 31 ?hg (N := 8) ?hd (xs := ([[]] : List (List Int))) (inner := [.slice none 0 0]) (ok := fun _ => True) (okp := fun _ => True) ?hr ?hp (fun _ hk => hk) trivial (Below.refl _ _) (Nat.le_refl _) (by simp) ?_; (case hd => rfl); (case hg => rfl); (case hr => first | (go_simp; done) | (go_simp; rfl)); (case hp => exact (Reps.one (show Kd.M (Kd.slice 3 (Kd.int .i64)) _ _ _ [] [.slice none 0 0] from ⟨_, rfl, Kd.R_nil _ _ _ _ _⟩) (Reps.none _ _))); intro v327 w2 ho3 hb hg_ hnew_; clear hg_ hnew_; (first | rw [← Ny326.out] at ho3 | (simp only [Int.reduceToNat] at ho3; rw [← Ny326.out] at ho3)); have HO328 := a_ (Kd.S_lower ho3 (below_size (Bl_ HB))); replace HB := Bs_ HB hb; clear hb ho3))
 go_loopg [3] k (fun kq v3 w' => ∃ (x3_1 : List (List Int)), Aside0 (spec_alOrders.l0 kq a0 x3_1 = some r) ∧ Aside0 (kq ≤ k) ∧ Aside0 (Kd.S (Kd.slice 3 (Kd.int .i64)) 31 w' w.heap.size (fun _ => True) v3 x3_1) ∧ Aside0 (Below w.heap.size w w'))
 case atStart => exact ⟨(y326), H', ⟨Nat.le_refl _⟩, ⟨Sl_ HO328.out⟩, ⟨Bl_ HB⟩⟩
 case round =>
  as_aux_lemma =>
  clear H'
  try clear p2
  obtain ⟨x3_1, HA, HK1, HO_3, HB⟩ := hrel
  cases gk with
  | zero => exact absurd HA.out (by simp [spec_alOrders.l0])
  | succ k1 =>
   have H := HA.out
   clear HA
   simp only [spec_alOrders.l0] at H
   by_cases c4 : 0 < (x3_1.length : Int)
   rotate_left
   ·rw [if_neg c4] at H
    cases H
   rw [if_pos c4] at H
   have c4b0 : decide (0 < (x3_1.length : Int)) = true := decide_eq_true c4
   have c4b1 : decide (0 < x3_1.length) = true := decide_eq_true (by omega)
   clear c4
   by_cases c5 : ((rd_L2 x3_1 0).length : Int) < a0
   rotate_left
   ·rw [if_neg c5] at H
    have c5b0 : decide (((rd_L2 x3_1 0).length : Int) < a0) = false := decide_eq_false c5
    clear c5
    obtain rfl := Option.some.inj H
    obtain ⟨Ao20, co20, eo20⟩ := Kd.S_slice HO_3.out
    subst eo20
    have p329 : 0 ≤ (0 : Int) := (by omega)
    have q329 : 0 < (x3_1.length : Int) := od_
    obtain ⟨ad329, A329_0, c329_0, e329, hx329_0, hl329_0, hi329_0⟩ := at_L2 (Kd.S_reads' HO_3.out).2.2 0 p329 q329
    cases e329
    obtain ⟨ce329, hce329, hMe329, hcc329⟩ := Kd.S_get HO_3.out [] 0 p329 (by first | exact q329 | exact od_ | (have e_ := (Kd.S_reads' HO_3.out).1; omega))
    obtain ⟨ve329_0, rfl, ge329_0⟩ := hMe329
    have hv329_0 := hcc329 0 _ rfl
    rw [Nat.add_zero, show ((Kd.slice 3 (Kd.int .i64))).sz = 1 from rfl, Nat.mul_one] at hv329_0
    replace hv329_0 := Option.some.inj (hv329_0.symm.trans hx329_0)
    rw [hv329_0] at ge329_0
    have HL329_0 := a_ (show Kd.R (Kd.int .i64) 3 _ _ _ _ (rd_L2 x3_1 0) from ge329_0)
    clear hv329_0 ge329_0
    clear hcc329 hce329
    have qi329 : (0 < x3_1.length) = True := eq_true (by omega)
    (try rw [show ((0 : Int)).toNat = 0 from rfl] at hx329_0)
    (try rw [Addr.add_zero'] at hx329_0)
    have HR329_0 := a_ hi329_0
    have HC329_0 := a_ hl329_0
    clear hi329_0 hl329_0
    replace p329 := eq_true p329
    replace q329 := eq_true q329
    go_wp2
    go_ret
    exact ⟨_, re_, by (with_reducible repeat (first | apply Kd.S_alloc | apply Kd.S_drewN | apply Kd.S_drew)); exact HO_3.out, Bl_ HB⟩
   rw [if_pos c5] at H
   have c5b0 : decide (((rd_L2 x3_1 0).length : Int) < a0) = true := decide_eq_true c5
   clear c5
   have H' := a_ H
   clear H
   obtain ⟨Ao6, co6, eo6⟩ := Kd.S_slice HO_3.out
   subst eo6
   have p329 : 0 ≤ (0 : Int) := (by omega)
   have q329 : 0 < (x3_1.length : Int) := od_
   obtain ⟨ad329, A329_0, c329_0, e329, hx329_0, hl329_0, hi329_0⟩ := at_L2 (Kd.S_reads' HO_3.out).2.2 0 p329 q329
   cases e329
   obtain ⟨ce329, hce329, hMe329, hcc329⟩ := Kd.S_get HO_3.out [] 0 p329 (by first | exact q329 | exact od_ | (have e_ := (Kd.S_reads' HO_3.out).1; omega))
   obtain ⟨ve329_0, rfl, ge329_0⟩ := hMe329
   have hv329_0 := hcc329 0 _ rfl
   rw [Nat.add_zero, show ((Kd.slice 3 (Kd.int .i64))).sz = 1 from rfl, Nat.mul_one] at hv329_0
   replace hv329_0 := Option.some.inj (hv329_0.symm.trans hx329_0)
   rw [hv329_0] at ge329_0
   have HL329_0 := a_ (show Kd.R (Kd.int .i64) 3 _ _ _ _ (rd_L2 x3_1 0) from ge329_0)
   clear hv329_0 ge329_0
   clear hcc329 hce329
   have qi329 : (0 < x3_1.length) = True := eq_true (by omega)
   (try rw [show ((0 : Int)).toNat = 0 from rfl] at hx329_0)
   (try rw [Addr.add_zero'] at hx329_0)
   have HR329_0 := a_ hi329_0
   have HC329_0 := a_ hl329_0
   clear hi329_0 hl329_0
   replace p329 := eq_true p329
   replace q329 := eq_true q329
   go_wp2
   go_loopg [4, 17] k1 (fun kq v4 v17 w' => ∃ (x4_2 : List (List Int)) (x17_2 : Int), v17 = .int .i64 x17_2 ∧ Aside0 (spec_alOrders.l1 kq a0 x4_2 x3_1 (x3_1.length : Int) x17_2 = some r) ∧ Aside0 (kq ≤ k1) ∧ Aside0 (Kd.S (Kd.slice 3 (Kd.int .i64)) 31 w' w.heap.size (fun k_ => some k_ ≠ ((.slice (some ad329) x3_1.length co6) : Value).ownBlock) v4 x4_2) ∧ Aside0 (Kd.S (Kd.slice 3 (Kd.int .i64)) 31 w' w.heap.size (fun k_ => some k_ ≠ (v4 : Value).ownBlock) (.slice (some ad329) x3_1.length co6) x3_1) ∧ Aside0 (Below w.heap.size w w'))
   case atStart => exact ⟨(([] : List (List Int))), (0), rs_, H', ⟨Nat.le_refl _⟩, ⟨by first | exact Kd.S_nil _ _ _ _ _ | exact Kd.N_nil _ _ _ _ _ | exact Kd.V_nil _ _ _ _ _ | exact Kd.Q_nil _ _ _ _ _ | exact Kd.R_nil _ _ _ _ _⟩, ⟨Sl_ (Kd.S_mono HO_3.out (fun _ hk => (by simp [Value.ownBlock])))⟩, ⟨Bl_ HB⟩⟩
   case round =>
    as_aux_lemma =>
    clear H'
    try clear p2
    try clear c3
    try clear p3
    try clear q3
    try clear hx3
    try clear qi3
    try clear c4
    try clear c4b0
    try clear c4b1
    try clear c5
    try clear c5b0
    try clear c6
    try clear hx329_0
    try clear p2
    try clear p329
    try clear q329
    obtain ⟨x4_2, x17_2, rfl, HA, HK2, HO_4, HO_15, HB⟩ := hrel
    cases gk with
    | zero => exact absurd HA.out (by simp [spec_alOrders.l1])
    | succ k2 =>
     have H := HA.out
     clear HA
     simp only [spec_alOrders.l1] at H
     by_cases c7 : x17_2 < (x3_1.length : Int)
     rotate_left
     ·rw [if_neg c7] at H
      have c7b0 : decide (x17_2 < (x3_1.length : Int)) = false := decide_eq_false c7
      clear c7
      have H' := a_ H
      clear H
      go_wp2
      go_roundg k2
      case measure => have := HK1.out; have := HK2.out; omega
      case rel => exact ⟨(x4_2), H', ⟨by have := HK1.out; have := HK2.out; omega⟩, ⟨Sl_ (Kd.S_mono HO_4.out (fun _ hk => trivial))⟩, ⟨Bl_ HB⟩⟩
     rw [if_pos c7] at H
     have c7b0 : decide (x17_2 < (x3_1.length : Int)) = true := decide_eq_true c7
     clear c7
     by_cases c8 : 0 ≤ x17_2
     rotate_left
     ·rw [if_neg c8] at H
      cases H
     rw [if_pos c8] at H
     have c8b0 : decide (0 ≤ x17_2) = true := decide_eq_true c8
     clear c8
     by_cases c9 : x17_2 < (x3_1.length : Int)
     rotate_left
     ·rw [if_neg c9] at H
      cases H
     rw [if_pos c9] at H
     have c9b0 : decide (x17_2 < (x3_1.length : Int)) = true := decide_eq_true c9
     clear c9
     have H' := a_ H
     clear H
     have p330 : 0 ≤ (x17_2 : Int) := od_
     have q330 : x17_2 < (x3_1.length : Int) := od_
     obtain ⟨ad330, A330_0, c330_0, e330, hx330_0, hl330_0, hi330_0⟩ := at_L2 (Kd.S_reads' HO_15.out).2.2 x17_2 p330 q330
     obtain rfl : ad329 = ad330 := (by injection e330)
     obtain ⟨ce330, hce330, hMe330, hcc330⟩ := Kd.S_get HO_15.out [] x17_2 p330 (by first | exact q330 | exact od_ | (have e_ := (Kd.S_reads' HO_15.out).1; omega))
     obtain ⟨ve330_0, rfl, ge330_0⟩ := hMe330
     have hv330_0 := hcc330 0 _ rfl
     rw [Nat.add_zero, show ((Kd.slice 3 (Kd.int .i64))).sz = 1 from rfl, Nat.mul_one] at hv330_0
     replace hv330_0 := Option.some.inj (hv330_0.symm.trans hx330_0)
     rw [hv330_0] at ge330_0
     have HL330_0 := a_ (show Kd.R (Kd.int .i64) 3 _ _ _ _ (rd_L2 x3_1 x17_2) from ge330_0)
     clear hv330_0 ge330_0
     clear hcc330 hce330
     have HR330_0 := a_ hi330_0
     have HC330_0 := a_ hl330_0
     clear hi330_0 hl330_0
     replace p330 := eq_true p330
     replace q330 := eq_true q330
     go_wp2
     go_loopg [4, 7] k2 (fun kq v4 v7 w' => ∃ (x4_3 : List (List Int)) (x7_3 : Int), v7 = .int .i64 x7_3 ∧ Aside0 (spec_alOrders.l2 kq a0 x4_3 (rd_L2 x3_1 x17_2) x7_3 x3_1 (x3_1.length : Int) x17_2 = some r) ∧ Aside0 (kq ≤ k2) ∧ Aside0 (Kd.S (Kd.slice 3 (Kd.int .i64)) 31 w' w.heap.size (fun k_ => some k_ ≠ ((.slice (some ad329) x3_1.length co6) : Value).ownBlock) v4 x4_3) ∧ Aside0 (Kd.S (Kd.slice 3 (Kd.int .i64)) 31 w' w.heap.size (fun k_ => some k_ ≠ (v4 : Value).ownBlock) (.slice (some ad329) x3_1.length co6) x3_1) ∧ Aside0 (Kd.R (Kd.int .i64) 3 w' w.heap.size (fun k_ => some k_ ≠ (v4 : Value).ownBlock) (.slice A330_0 (rd_L2 x3_1 x17_2).length c330_0) (rd_L2 x3_1 x17_2)) ∧ Aside0 (Below w.heap.size w w'))
     case atStart => exact ⟨(x4_2), (0), rs_, H', ⟨Nat.le_refl _⟩, ⟨Sl_ HO_4.out⟩, ⟨Sl_ HO_15.out⟩, ⟨Rl_ (Kd.R_mono HL330_0.out (fun _ hk => by first | exact hk.1 | exact hk))⟩, ⟨Bl_ HB⟩⟩
     case round =>
      clear H'
      try clear p2
      try clear c3
      try clear p3
      try clear q3
      try clear hx3
      try clear qi3
      try clear c4
      try clear c4b0
      try clear c4b1
      try clear c5
      try clear c5b0
      try clear c6
      try clear c7
      try clear c7b0
      try clear c8
      try clear c8b0
      try clear c9
      try clear c9b0
      try clear hx329_0
      try clear hx330_0
      try clear p2
      try clear p3
      try clear p329
      try clear p330
      try clear q3
      try clear q329
      try clear q330
      obtain ⟨x4_3, x7_3, rfl, HA, HK3, HO_4, HO_15, HE_, HB⟩ := hrel
      cases gk with
      | zero => exact absurd HA.out (by simp [spec_alOrders.l2])
      | succ k3 =>
       have H := HA.out
       clear HA
       simp only [spec_alOrders.l2] at H
       by_cases c10 : x7_3 < a0
       rotate_left
       ·rw [if_neg c10] at H
        have c10b0 : decide (x7_3 < a0) = false := decide_eq_false c10
        clear c10
        have H' := a_ H
        clear H
        go_wp2
        go_roundg k3
        case measure => have := HK1.out; have := HK2.out; have := HK3.out; omega
        case rel => exact ⟨(x4_3), (wrap64 (x17_2 + 1)), rs_, H', ⟨by have := HK1.out; have := HK2.out; have := HK3.out; omega⟩, ⟨Sl_ HO_4.out⟩, ⟨Sl_ HO_15.out⟩, ⟨Bl_ HB⟩⟩
       rw [if_pos c10] at H
       have c10b0 : decide (x7_3 < a0) = true := decide_eq_true c10
       clear c10
       obtain ⟨t331, A11, H⟩ := ob_ H
       (try dsimp only at H)
       by_cases c12 : t331 = true
       ·subst c12
        rw [if_pos rfl] at H
        have H' := a_ H
        clear H
        go_wp2_with (first | ((with_reducible refine gate_callee (f := 78) rfl ?_); refine gm_ (some 28) Tryz.func78 #[.slice A330_0 (rd_L2 x3_1 x17_2).length c330_0, .int .i64 x7_3] rfl ?_; (with_reducible refine (spec_l1Has.calls k3 _ _ (rd_L2 x3_1 x17_2) x7_3 true _ ?side1 ?side2 A11.out).mono ?_); (case side1 => exact Cl_ (Kd.R_reads' HE_.out).2.2); (case side2 => exact HC330_0.out); rintro e w' ⟨rfl, ⟨nd, rfl⟩⟩; refine ⟨_, rfl, ?_⟩))
        go_roundg k3
        case measure => have := HK1.out; have := HK2.out; have := HK3.out; omega
        case rel => exact ⟨(x4_3), (wrap64 (x7_3 + 1)), rs_, H', ⟨by have := HK1.out; have := HK2.out; have := HK3.out; omega⟩, ⟨Sl_ HO_4.out⟩, ⟨Sl_ HO_15.out⟩, ⟨Rl_ HE_.out⟩, ⟨Bl_ HB⟩⟩
       replace c12 := Bool.eq_false_iff.mpr c12
       subst c12
       rw [if_neg (show ¬ (false = true) by decide)] at H
       obtain ⟨t332, A13, H⟩ := ob_ H
       (try dsimp only at H)
       by_cases c14 : t332.length < 17592186044416
       rotate_left
       ·rw [if_neg c14] at H
        cases H
       rw [if_pos c14] at H
       have LMc14 := a_ c14
       clear c14
       obtain ⟨y335, hy335⟩ : ∃ y_ : List Int, y_ = (t332 ++ [x7_3]) := ⟨_, rfl⟩
       replace H : (if x4_3.length < 5864062014805 then (spec_alOrders.l2 k3 a0 (x4_3 ++ [y335]) (rd_L2 x3_1 x17_2) (wrap64 (x7_3 + 1)) x3_1 (x3_1.length : Int) x17_2) else (none)) = some r := by first | (rw [hy335]; with_reducible exact H) | (have H2_ := (Option.bind_some _ _).symm.trans H; rw [hy335]; with_reducible exact H2_) | (have H2_ := (Option.bind_some _ _).symm.trans H; with_reducible exact H2_) | with_reducible exact H | (rw [hy335]; exact H) | exact H
       have Ny335 := a_ hy335
       clear hy335
       by_cases c15 : x4_3.length < 5864062014805
       rotate_left
       ·rw [if_neg c15] at H
        cases H
       rw [if_pos c15] at H
       have LMc15 := a_ c15
       clear c15
       obtain ⟨y338, hy338⟩ : ∃ y_ : List (List Int), y_ = (x4_3 ++ [y335]) := ⟨_, rfl⟩
       replace H : (spec_alOrders.l2 k3 a0 y338 (rd_L2 x3_1 x17_2) (wrap64 (x7_3 + 1)) x3_1 (x3_1.length : Int) x17_2) = some r := by first | (rw [hy338]; with_reducible exact H) | (have H2_ := (Option.bind_some _ _).symm.trans H; rw [hy338]; with_reducible exact H2_) | (have H2_ := (Option.bind_some _ _).symm.trans H; with_reducible exact H2_) | with_reducible exact H | (rw [hy338]; exact H) | exact H
       have Ny338 := a_ hy338
       clear hy338
       have H' := a_ H
       clear H
       go_wp2_with (first | ((with_reducible refine gate_callee (f := 78) rfl ?_); refine gm_ (some 28) Tryz.func78 #[.slice A330_0 (rd_L2 x3_1 x17_2).length c330_0, .int .i64 x7_3] rfl ?_; (with_reducible refine (spec_l1Has.calls k3 _ _ (rd_L2 x3_1 x17_2) x7_3 false _ ?side1 ?side2 A11.out).mono ?_); (case side1 => exact Cl_ (Kd.R_reads' HE_.out).2.2); (case side2 => exact HC330_0.out); rintro e w' ⟨rfl, ⟨nd, rfl⟩⟩; refine ⟨_, rfl, ?_⟩) | ((with_reducible refine gate_callee (f := 79) rfl ?_); refine gm_ (some 32) Tryz.func79 #[.slice A330_0 (rd_L2 x3_1 x17_2).length c330_0] rfl ?_; (with_reducible refine (spec_l1Own.calls _ _ (rd_L2 x3_1 x17_2) t332 _ ?side1 ?side2 A13.out).mono ?_); (case side1 => exact Cl_ (Kd.R_reads' HE_.out).2.2); (case side2 => exact HC330_0.out); rintro e w16 ⟨v333, rfl, ho0, hb⟩; refine ⟨_, rfl, ?_⟩; have n0_ := a_ (Kd.S_elder' (Sl_ HO_4.out) (Kd.R_base ho0) hb); have n9_ := a_ (Kd.R_elder' (Rl_ HE_.out) (Kd.R_base ho0) hb); have n1_ := a_ (Kd.S_elder' (Sl_ HO_15.out) (Kd.R_base ho0) hb); have n2_ := a_ (Kd.R_lower ho0 (below_size (Bl_ HB))); have n3_ := Bs_ HB hb; clear HO_4; clear HO_15; clear HB; have HO_4 := n0_; have HO_15 := n1_; have HO334 := n2_; have HB := n3_; clear n0_ n1_ n2_ n3_; clear HE_; have HE_ := n9_; clear n9_; (try clear hb); (try clear hb2); (try clear hk); (try clear hi); (try clear ho0)) | ((with_reducible refine gate_builtin (b := .append) (xs := #[.tmp 32, .tmp 34]) rfl ?_); at_builtin; refine Kd.R_append (Kd.int .i64) (w0 := w) w.heap.size rfl (.tmp 32) (.tmp 34) 31 3 (.int .i64 0) 8 rfl Tryz.underlying31 info3 rfl (by decide) (by omega) v333 t332 x7_3 [.int .i64 x7_3] (fun _ => True) (fun _ => False) rfl rfl ?aP (fun _ hk => hk.elim) ?aF ?aO ?aB ?aS ?aL ?_; (case aP => exact rfl); (case aB => exact (Bl_ HB)); (case aF => exact (fun _ _ => trivial)); (case aO => exact (Rl_ HO334.out)); (case aS => exact (below_size (Bl_ HB))); (case aL => have := LMc14.out; omega); intro v336 w17 ho hb hg hat; rw [← Ny335.out] at ho; have n0_ := a_ (Kd.S_after (ok := (fun k_ => some k_ ≠ (.slice (some ad329) x3_1.length co6 : Value).ownBlock)) (Sl_ HO_4.out) hg hat); have n9_ := a_ (Kd.R_after (ok := (fun k_ => some k_ ≠ (u4 : Value).ownBlock)) (Rl_ HE_.out) hg hat); have n1_ := a_ (Kd.S_after (ok := (fun k_ => some k_ ≠ (u4 : Value).ownBlock)) (Sl_ HO_15.out) hg hat); have n2_ := a_ (hb); have n3_ := a_ (ho); clear HO_4; clear HO_15; clear HB; clear HO334; have HO_4 := n0_; have HO_15 := n1_; have HB := n2_; have HO337 := n3_; clear n0_ n1_ n2_ n3_; clear HE_; have HE_ := n9_; clear n9_; clear ho hb hg hat; obtain ⟨Ao19, co19, eo19⟩ := Kd.R_slice HO337.out; subst eo19) | ((with_reducible refine gate_builtin (b := .append) (xs := #[.tmp 30, .tmp 36]) rfl ?_); at_builtin; refine Kd.S_append (Kd.slice 3 (Kd.int .i64)) (w0 := w) w.heap.size rfl (.tmp 30) (.tmp 36) 25 31 (.slice none 0 0) 24 rfl Tryz.underlying25 info31 rfl (by decide) (by omega) u4 x4_3 y335 [.slice Ao19 y335.length co19] (fun k_ => some k_ ≠ (.slice (some ad329) x3_1.length co6 : Value).ownBlock) (fun k_ => some k_ = (.slice Ao19 y335.length co19 : Value).ownBlock) rfl rfl ?aP (fun k_ hk_ => ((Kd.R_mono (ok' := fun k_ => ((fun k_ => some k_ ≠ (.slice (some ad329) x3_1.length co6 : Value).ownBlock)) k_ ∧ some k_ ≠ (u4 : Value).ownBlock) (Kd.R_apart' (Kd.R_apart' (HO337.out) (Kd.S_typed HO_15.out) (by decide)) (Kd.S_typed HO_4.out) (by decide)) (fun k_ hk => ⟨hk.1.2, hk.2⟩))).1 k_ hk_.symm) ?aF ?aO ?aB ?aS ?aL ?_; (case aP => exact Kd.M_row (Kd.R_mono (Kd.R_tight rfl (Kd.R_mono (ok' := fun k_ => ((fun k_ => some k_ ≠ (.slice (some ad329) x3_1.length co6 : Value).ownBlock)) k_ ∧ some k_ ≠ (u4 : Value).ownBlock) (Kd.R_apart' (Kd.R_apart' (HO337.out) (Kd.S_typed HO_15.out) (by decide)) (Kd.S_typed HO_4.out) (by decide)) (fun k_ hk => ⟨hk.1.2, hk.2⟩))) (fun _ h_ => h_))); (case aB => exact (Bl_ HB)); (case aF => exact (fun k_ hk => Kd.fresh' (Kd.S_lt (Sl_ HO_15.out)) k_ hk)); (case aO => exact (Sl_ (Kd.S_mono HO_4.out (fun k_ hk => ⟨hk.1, fun e_ => hk.2 e_⟩)))); (case aS => exact (below_size (Bl_ HB))); (case aL => have := LMc15.out; omega); intro v339 w18 ho hb hg hat; rw [← Ny338.out] at ho; have n9_ := a_ (Kd.R_after (ok := (fun k_ => some k_ ≠ (.slice Ao19 y335.length co19 : Value).ownBlock)) (Rl_ (Kd.R_mono HE_.out (fun _ hk => ⟨hk.2, hk.1⟩))) hg hat); replace HO_15 := a_ (Kd.S_after (ok := (fun k_ => some k_ ≠ (.slice Ao19 y335.length co19 : Value).ownBlock)) (Sl_ (Kd.S_mono HO_15.out (fun _ hk => ⟨hk.2, hk.1⟩))) hg hat); replace HB := a_ (hb); have HO340 := a_ (ho); clear HO_4 HO337; clear HE_; have HE_ := n9_; clear n9_; clear ho hb hg hat))
       go_roundg k3
       case measure => have := HK1.out; have := HK2.out; have := HK3.out; omega
       case rel => exact ⟨(y338), (wrap64 (x7_3 + 1)), rs_, H', ⟨by have := HK1.out; have := HK2.out; have := HK3.out; omega⟩, ⟨Sl_ HO340.out⟩, ⟨Sl_ (Kd.S_mono HO_15.out (fun _ hk => hk.2))⟩, ⟨Rl_ (Kd.R_mono HE_.out (fun _ hk => hk.2))⟩, ⟨Bl_ HB⟩⟩

/-! ### spec_alRank: function 67 -/
mutual
def spec_alRank.l0 : Nat → List Int → Int → List Int → Int → Int → Option (Int)
 | 0, _, _, _, _, _ => none
 | k + 1, x0, x3, x9, x10, x11 => if x11 < x10 then (if 0 ≤ x11 then (if x11 < (x9.length : Int) then (if 0 ≤ (wrap64 (x11 + 1)) then (if (wrap64 (x11 + 1)) ≤ (x0.length : Int) then (spec_alRank.l1 k x0 x3 x11 (rd x9 x11) 0 x9 x10 x11 (x0.drop ((wrap64 (x11 + 1)) : Int).toNat) ((x0.drop ((wrap64 (x11 + 1)) : Int).toNat).length : Int) 0) else (none)) else (none)) else (none)) else (none)) else (some x3)
def spec_alRank.l1 : Nat → List Int → Int → Int → Int → Int → List Int → Int → Int → List Int → Int → Int → Option (Int)
 | 0, _, _, _, _, _, _, _, _, _, _, _ => none
 | k + 1, x0, x3, x4, x5, x6, x9, x10, x11, x19, x20, x21 => if x21 < x20 then (if 0 ≤ x21 then (if x21 < (x19.length : Int) then (if (rd x19 x21) < x5 then (spec_alRank.l1 k x0 x3 x4 x5 (wrap64 (x6 + 1)) x9 x10 x11 x19 x20 (wrap64 (x21 + 1))) else (spec_alRank.l1 k x0 x3 x4 x5 x6 x9 x10 x11 x19 x20 (wrap64 (x21 + 1)))) else (none)) else (none)) else (spec_alRank.l0 k x0 (wrap64 ((wrap64 (x3 * (wrap64 ((x0.length : Int) - x4)))) + x6)) x9 x10 (wrap64 (x11 + 1)))
end
def spec_alRank.f (k : Nat) (l0 : List Int) : Option (Int) := spec_alRank.l0 k l0 0 l0 (l0.length : Int) 0
theorem spec_alRank.mono_l : ∀ k, (∀ y0 y1 y2 y3 y4, LeO (spec_alRank.l0 k y0 y1 y2 y3 y4) (spec_alRank.l0 (k + 1) y0 y1 y2 y3 y4)) ∧ (∀ y0 y1 y2 y3 y4 y5 y6 y7 y8 y9 y10, LeO (spec_alRank.l1 k y0 y1 y2 y3 y4 y5 y6 y7 y8 y9 y10) (spec_alRank.l1 (k + 1) y0 y1 y2 y3 y4 y5 y6 y7 y8 y9 y10))
 | 0 => ⟨fun _ _ _ _ _ r h => by simp [spec_alRank.l0] at h, fun _ _ _ _ _ _ _ _ _ _ _ r h => by simp [spec_alRank.l1] at h⟩
 | k + 1 => by
  obtain ⟨ih0, ih1⟩ := spec_alRank.mono_l k
  refine ⟨?_, ?_⟩
  ·intro y0 y1 y2 y3 y4
   unfold spec_alRank.l0
   repeat' first
   | (with_reducible exact ih1 _ _ _ _ _ _ _ _ _ _ _)
   | (with_reducible exact LeO.refl _)
   | (with_reducible exact LeO.none _)
   | (with_reducible refine LeO.ite ?_ ?_)
   | (with_reducible refine LeO.bind ?_ (fun _ => ?_))
   | exact LeO.none _
   | refine LeO.ite ?_ ?_
   | refine LeO.bind ?_ (fun _ => ?_)
  ·intro y0 y1 y2 y3 y4 y5 y6 y7 y8 y9 y10
   unfold spec_alRank.l1
   repeat' first
   | (with_reducible exact ih0 _ _ _ _ _)
   | (with_reducible exact ih1 _ _ _ _ _ _ _ _ _ _ _)
   | (with_reducible exact LeO.refl _)
   | (with_reducible exact LeO.none _)
   | (with_reducible refine LeO.ite ?_ ?_)
   | (with_reducible refine LeO.bind ?_ (fun _ => ?_))
   | exact LeO.none _
   | refine LeO.ite ?_ ?_
   | refine LeO.bind ?_ (fun _ => ?_)
theorem spec_alRank.mono : ∀ a0 k, LeO (spec_alRank.f k a0) (spec_alRank.f (k + 1) a0) := by
 intro a0 k
 obtain ⟨ih0, ih1⟩ := spec_alRank.mono_l k
 unfold spec_alRank.f
 repeat' first
  | (with_reducible exact ih0 _ _ _ _ _)
  | (with_reducible exact LeO.refl _)
  | (with_reducible exact LeO.none _)
  | (with_reducible refine LeO.ite ?_ ?_)
  | (with_reducible refine LeO.bind ?_ (fun _ => ?_))
  | exact LeO.none _
  | refine LeO.ite ?_ ?_
  | refine LeO.bind ?_ (fun _ => ?_)
set_option maxHeartbeats 8000000 in
set_option maxRecDepth 100000 in
theorem spec_alRank.calls (k : Nat) (A0 : Option Addr) (c0 : Nat) (l0 : List Int) (r : Int) (w : World) (hr0 : Kd.C (Kd.int .i64) w A0 l0.length l0) (hc0 : l0.length ≤ c0) (h : spec_alRank.f k l0 = some r) :
 Calls Tryz.prog 67 #[.slice A0 l0.length c0] w fun e w' => e = .returned (.int .i64 r) ∧ Drawn0 w w' := by
 have HR0 := a_ hr0
 have HC0 := a_ hc0
 clear hr0 hc0
 have H : (spec_alRank.l0 k l0 0 l0 (l0.length : Int) 0) = some r := h
 clear h
 have H' := a_ H
 clear H
 go_enter Tryz.func67, Tryz.ntmps67
 go_wp2
 go_loopg [3, 11] k (fun kq v3 v11 w' => ∃ (x3_1 : Int) (x11_1 : Int), v3 = .int .i64 x3_1 ∧ v11 = .int .i64 x11_1 ∧ Aside0 (spec_alRank.l0 kq l0 x3_1 l0 (l0.length : Int) x11_1 = some r) ∧ Aside0 (kq ≤ k) ∧ Drawn0 w w')
 case atStart => exact ⟨(0), (0), rs_, rs_, H', ⟨Nat.le_refl _⟩, dr_⟩
 case round =>
  as_aux_lemma =>
  clear H'
  obtain ⟨x3_1, x11_1, rfl, rfl, HA, HK1, ⟨m1, rfl⟩⟩ := hrel
  cases gk with
  | zero => exact absurd HA.out (by simp [spec_alRank.l0])
  | succ k1 =>
   have H := HA.out
   clear HA
   simp only [spec_alRank.l0] at H
   by_cases c2 : x11_1 < (l0.length : Int)
   rotate_left
   ·rw [if_neg c2] at H
    have c2b0 : decide (x11_1 < (l0.length : Int)) = false := decide_eq_false c2
    clear c2
    obtain rfl := Option.some.inj H
    go_wp2
    go_ret
    exact ⟨rs_, dr_⟩
   rw [if_pos c2] at H
   have c2b0 : decide (x11_1 < (l0.length : Int)) = true := decide_eq_true c2
   clear c2
   by_cases c3 : 0 ≤ x11_1
   rotate_left
   ·rw [if_neg c3] at H
    cases H
   rw [if_pos c3] at H
   have c3b0 : decide (0 ≤ x11_1) = true := decide_eq_true c3
   clear c3
   by_cases c4 : x11_1 < (l0.length : Int)
   rotate_left
   ·rw [if_neg c4] at H
    cases H
   rw [if_pos c4] at H
   have c4b0 : decide (x11_1 < (l0.length : Int)) = true := decide_eq_true c4
   clear c4
   obtain ⟨ji5, hji5⟩ : ∃ j_ : Int, (wrap64 (x11_1 + 1)) = j_ := ⟨_, rfl⟩
   replace H : (if 0 ≤ (ji5) then (if (ji5) ≤ (l0.length : Int) then (spec_alRank.l1 k1 l0 x3_1 x11_1 (rd l0 x11_1) 0 l0 (l0.length : Int) x11_1 (l0.drop ((ji5) : Int).toNat) ((l0.drop ((ji5) : Int).toNat).length : Int) 0) else (none)) else (none)) = some r := by first | (rw [hji5] at H; exact H) | (simp only [hji5] at H ⊢; exact H)
   have hji5w : (IntKind.i64.wrap (x11_1 + 1)) = ji5 := (i64_w _).trans hji5
   by_cases c6 : 0 ≤ (ji5)
   rotate_left
   ·rw [if_neg c6] at H
    cases H
   rw [if_pos c6] at H
   have c6b0 := eq_true c6
   have c6b1 : decide (0 ≤ (ji5)) = true := decide_eq_true c6
   clear c6
   by_cases c7 : (ji5) ≤ (l0.length : Int)
   rotate_left
   ·rw [if_neg c7] at H
    cases H
   rw [if_pos c7] at H
   have c7b0 := eq_true c7
   have c7b1 : decide ((ji5) ≤ (l0.length : Int)) = true := decide_eq_true c7
   clear c7
   have H' := a_ H
   clear H
   have p341 : 0 ≤ (x11_1 : Int) := od_
   have q341 : x11_1 < (l0.length : Int) := od_
   obtain ⟨ad341, e341, hx341_0⟩ := Kd.at_int HR0.out x11_1 p341 q341
   cases e341
   replace p341 := eq_true p341
   replace q341 := eq_true q341
   obtain ⟨i08, hi08, _, hsz8, _⟩ := info_parts info3
   obtain ⟨A8, hcut8, hA8, hC8⟩ := print_drop_of (P := Tryz.prog) (Value.int .i64) 0 31 3 .i64 Tryz.underlying31 hi08 hsz8 (some ad341) c0 l0 (ji5) (od_) (od_) HC0.out
   have HR342 := a_ (Kd.C_of_reads (h1 := fun _ => rfl) (hA8 _ (Kd.reads_of_C HR0.out)))
   have HC342 := a_ hC8
   clear hA8 hC8 hi08 hsz8
   go_wp2
   go_loopg [6, 21] k1 (fun kq v6 v21 w' => ∃ (x6_2 : Int) (x21_2 : Int), v6 = .int .i64 x6_2 ∧ v21 = .int .i64 x21_2 ∧ Aside0 (spec_alRank.l1 kq l0 x3_1 x11_1 (rd l0 x11_1) x6_2 l0 (l0.length : Int) x11_1 (l0.drop ((ji5) : Int).toNat) ((l0.drop ((ji5) : Int).toNat).length : Int) x21_2 = some r) ∧ Aside0 (kq ≤ k1) ∧ Drawn0 w w')
   case atStart => exact ⟨(0), (0), rs_, rs_, H', ⟨Nat.le_refl _⟩, dr_⟩
   case round =>
    clear H'
    try clear c2
    try clear c2b0
    try clear p2
    try clear c3
    try clear c3b0
    try clear p3
    try clear q3
    try clear hx3
    try clear c4
    try clear c4b0
    try clear c6
    try clear c6b0
    try clear c6b1
    try clear p6
    try clear c7
    try clear c7b0
    try clear c7b1
    try clear hx341_0
    try clear p341
    try clear q341
    obtain ⟨x6_2, x21_2, rfl, rfl, HA, HK2, ⟨m2, rfl⟩⟩ := hrel
    cases gk with
    | zero => exact absurd HA.out (by simp [spec_alRank.l1])
    | succ k2 =>
     have H := HA.out
     clear HA
     simp only [spec_alRank.l1] at H
     by_cases c9 : x21_2 < ((l0.drop ((ji5) : Int).toNat).length : Int)
     rotate_left
     ·rw [if_neg c9] at H
      have c9b0 : decide (x21_2 < ((l0.drop ((ji5) : Int).toNat).length : Int)) = false := decide_eq_false c9
      have c9d0 : decide (x21_2 < ((l0.length - ((ji5) : Int).toNat : Nat) : Int)) = false := by rw [← List.length_drop]; exact c9b0
      clear c9
      have H' := a_ H
      clear H
      go_wp2
      go_roundg k2
      case measure => have := HK1.out; have := HK2.out; omega
      case rel => exact ⟨(wrap64 ((wrap64 (x3_1 * (wrap64 ((l0.length : Int) - x11_1)))) + x6_2)), (wrap64 (x11_1 + 1)), rs_, rs_, H', ⟨by have := HK1.out; have := HK2.out; omega⟩, dr_⟩
     rw [if_pos c9] at H
     have c9b0 : decide (x21_2 < ((l0.drop ((ji5) : Int).toNat).length : Int)) = true := decide_eq_true c9
     have c9d0 : decide (x21_2 < ((l0.length - ((ji5) : Int).toNat : Nat) : Int)) = true := by rw [← List.length_drop]; exact c9b0
     clear c9
     by_cases c10 : 0 ≤ x21_2
     rotate_left
     ·rw [if_neg c10] at H
      cases H
     rw [if_pos c10] at H
     have c10b0 : decide (0 ≤ x21_2) = true := decide_eq_true c10
     clear c10
     by_cases c11 : x21_2 < ((l0.drop ((ji5) : Int).toNat).length : Int)
     rotate_left
     ·rw [if_neg c11] at H
      cases H
     rw [if_pos c11] at H
     have c11b0 : decide (x21_2 < ((l0.drop ((ji5) : Int).toNat).length : Int)) = true := decide_eq_true c11
     have c11d0 : decide (x21_2 < ((l0.length - ((ji5) : Int).toNat : Nat) : Int)) = true := by rw [← List.length_drop]; exact c11b0
     clear c11
     by_cases c12 : (rd (l0.drop ((ji5) : Int).toNat) x21_2) < (rd l0 x11_1)
     ·rw [if_pos c12] at H
      have c12b0 : decide ((rd (l0.drop ((ji5) : Int).toNat) x21_2) < (rd l0 x11_1)) = true := decide_eq_true c12
      clear c12
      have H' := a_ H
      clear H
      have p343 : 0 ≤ (x21_2 : Int) := od_
      have q343 : x21_2 < ((l0.drop ((ji5) : Int).toNat).length : Int) := od_
      have q343d : (x21_2 < ((l0.length - ((ji5) : Int).toNat : Nat) : Int)) = True := eq_true (by rw [← List.length_drop]; exact q343)
      obtain ⟨ad343, e343, hx343_0⟩ := Kd.at_int HR342.out x21_2 p343 q343
      cases e343
      replace p343 := eq_true p343
      replace q343 := eq_true q343
      go_wp2
      go_roundg k2
      case measure => have := HK1.out; have := HK2.out; omega
      case rel => exact ⟨(wrap64 (x6_2 + 1)), (wrap64 (x21_2 + 1)), rs_, rs_, H', ⟨by have := HK1.out; have := HK2.out; omega⟩, dr_⟩
     rw [if_neg c12] at H
     have c12b0 : decide ((rd (l0.drop ((ji5) : Int).toNat) x21_2) < (rd l0 x11_1)) = false := decide_eq_false c12
     clear c12
     have H' := a_ H
     clear H
     have p343 : 0 ≤ (x21_2 : Int) := od_
     have q343 : x21_2 < ((l0.drop ((ji5) : Int).toNat).length : Int) := od_
     have q343d : (x21_2 < ((l0.length - ((ji5) : Int).toNat : Nat) : Int)) = True := eq_true (by rw [← List.length_drop]; exact q343)
     obtain ⟨ad343, e343, hx343_0⟩ := Kd.at_int HR342.out x21_2 p343 q343
     cases e343
     replace p343 := eq_true p343
     replace q343 := eq_true q343
     go_wp2
     go_roundg k2
     case measure => have := HK1.out; have := HK2.out; omega
     case rel => exact ⟨(x6_2), (wrap64 (x21_2 + 1)), rs_, rs_, H', ⟨by have := HK1.out; have := HK2.out; omega⟩, dr_⟩

/-! ### spec_alSwap: function 80 -/
def spec_alSwap.f (l0 : List Int) (a1 : Int) : Option (List Int) := (spec_l1Own.f l0).bind fun t344 => (if 0 ≤ (wrap64 (a1 + 1)) then (if (wrap64 (a1 + 1)) < (l0.length : Int) then (if 0 ≤ a1 then (if a1 < (t344.length : Int) then (if a1 < (l0.length : Int) then (if (wrap64 (a1 + 1)) < (t344.length : Int) then (some ((t344.set (a1 : Int).toNat (rd l0 (wrap64 (a1 + 1)))).set ((wrap64 (a1 + 1)) : Int).toNat (rd l0 a1))) else (none)) else (none)) else (none)) else (none)) else (none)) else (none))
set_option maxHeartbeats 8000000 in
set_option maxRecDepth 100000 in
theorem spec_alSwap.calls (A0 : Option Addr) (c0 : Nat) (l0 : List Int) (a1 : Int) (r : List Int) (w : World) (hr0 : Kd.C (Kd.int .i64) w A0 l0.length l0) (hc0 : l0.length ≤ c0) (h : spec_alSwap.f l0 a1 = some r) :
 Calls Tryz.prog 80 #[.slice A0 l0.length c0, .int .i64 a1] w fun e w' => ∃ v0_ : Value, e = .returned (v0_) ∧ Kd.R (Kd.int .i64) 3 w' w.heap.size (fun _ => True) v0_ r ∧ Below w.heap.size w w' := by
 have HR0 := a_ hr0
 have HC0 := a_ hc0
 clear hr0 hc0
 have HB := a_ (Below.refl w.heap.size w)
 have H : ((spec_l1Own.f l0).bind fun t344 => (if 0 ≤ (wrap64 (a1 + 1)) then (if (wrap64 (a1 + 1)) < (l0.length : Int) then (if 0 ≤ a1 then (if a1 < (t344.length : Int) then (if a1 < (l0.length : Int) then (if (wrap64 (a1 + 1)) < (t344.length : Int) then (some ((t344.set (a1 : Int).toNat (rd l0 (wrap64 (a1 + 1)))).set ((wrap64 (a1 + 1)) : Int).toNat (rd l0 a1))) else (none)) else (none)) else (none)) else (none)) else (none)) else (none))) = some r := h
 clear h
 obtain ⟨t344, A3, H⟩ := ob_ H
 (try dsimp only at H)
 obtain ⟨ji4, hji4⟩ : ∃ j_ : Int, (wrap64 (a1 + 1)) = j_ := ⟨_, rfl⟩
 replace H : (if 0 ≤ (ji4) then (if (ji4) < (l0.length : Int) then (if 0 ≤ a1 then (if a1 < (t344.length : Int) then (if a1 < (l0.length : Int) then (if (ji4) < (t344.length : Int) then (some ((t344.set (a1 : Int).toNat (rd l0 (ji4))).set ((ji4) : Int).toNat (rd l0 a1))) else (none)) else (none)) else (none)) else (none)) else (none)) else (none)) = some r := by first | (rw [hji4] at H; exact H) | (simp only [hji4] at H ⊢; exact H)
 (try rw [hji4] at A3)
 have hji4w : (IntKind.i64.wrap (a1 + 1)) = ji4 := (i64_w _).trans hji4
 by_cases c5 : 0 ≤ (ji4)
 rotate_left
 ·rw [if_neg c5] at H
  cases H
 rw [if_pos c5] at H
 have c5b0 : decide (0 ≤ (ji4)) = true := decide_eq_true c5
 clear c5
 by_cases c6 : (ji4) < (l0.length : Int)
 rotate_left
 ·rw [if_neg c6] at H
  cases H
 rw [if_pos c6] at H
 have c6b0 : decide ((ji4) < (l0.length : Int)) = true := decide_eq_true c6
 clear c6
 by_cases c7 : 0 ≤ a1
 rotate_left
 ·rw [if_neg c7] at H
  cases H
 rw [if_pos c7] at H
 have c7b0 : decide (0 ≤ a1) = true := decide_eq_true c7
 clear c7
 by_cases c8 : a1 < (t344.length : Int)
 rotate_left
 ·rw [if_neg c8] at H
  cases H
 rw [if_pos c8] at H
 have c8b0 : decide (a1 < (t344.length : Int)) = true := decide_eq_true c8
 clear c8
 obtain ⟨y348, hy348⟩ : ∃ y_ : List Int, y_ = (t344.set (a1 : Int).toNat (rd l0 (ji4))) := ⟨_, rfl⟩
 replace H : (if a1 < (l0.length : Int) then (if (ji4) < (t344.length : Int) then (some (y348.set ((ji4) : Int).toNat (rd l0 a1))) else (none)) else (none)) = some r := by first | (rw [hy348]; with_reducible exact H) | (have H2_ := (Option.bind_some _ _).symm.trans H; rw [hy348]; with_reducible exact H2_) | (have H2_ := (Option.bind_some _ _).symm.trans H; with_reducible exact H2_) | with_reducible exact H | (rw [hy348]; exact H) | exact H
 have Ny348 := a_ hy348
 clear hy348
 by_cases c10 : a1 < (l0.length : Int)
 rotate_left
 ·rw [if_neg c10] at H
  cases H
 rw [if_pos c10] at H
 have c10b0 : decide (a1 < (l0.length : Int)) = true := decide_eq_true c10
 clear c10
 by_cases c11 : (ji4) < (t344.length : Int)
 rotate_left
 ·rw [if_neg c11] at H
  cases H
 rw [if_pos c11] at H
 have c11b0 : decide ((ji4) < (t344.length : Int)) = true := decide_eq_true c11
 clear c11
 obtain ⟨y350, hy350⟩ : ∃ y_ : List Int, y_ = (y348.set ((ji4) : Int).toNat (rd l0 a1)) := ⟨_, rfl⟩
 replace H : (some y350) = some r := by first | (rw [hy350]; with_reducible exact H) | (have H2_ := (Option.bind_some _ _).symm.trans H; rw [hy350]; with_reducible exact H2_) | (have H2_ := (Option.bind_some _ _).symm.trans H; with_reducible exact H2_) | with_reducible exact H | (rw [hy350]; exact H) | exact H
 have Ny350 := a_ hy350
 clear hy350
 obtain rfl := Option.some.inj H
 go_enter Tryz.func80, Tryz.ntmps80
 go_wp2_with (first | ((with_reducible refine gate_callee (f := 79) rfl ?_); refine gm_ (some 7) Tryz.func79 #[.slice A0 l0.length c0] rfl ?_; (with_reducible refine (spec_l1Own.calls _ _ l0 t344 _ ?side1 ?side2 A3.out).mono ?_); (case side1 => repeat (first | exact HR0.out | (with_reducible refine Kd.C_alloc ?_ _) | (with_reducible refine Kd.C_drewN ?_ _) | (with_reducible refine Kd.C_drew ?_))); (case side2 => exact HC0.out); rintro e w13 ⟨v345, rfl, ho0, hb⟩; refine ⟨_, rfl, ?_⟩; have HO346 := a_ (Kd.R_lower ho0 (below_size (Bl_ HB))); replace HB := Bs_ HB hb; (try clear hb); (try clear hb2); (try clear hk); (try clear hi); (try clear ho0); have p347 : 0 ≤ ((ji4) : Int) := od_; have q347 : (ji4) < (l0.length : Int) := od_; obtain ⟨ad347, e347, hx347_0⟩ := Kd.at_int HR0.out (ji4) p347 q347; cases e347; replace hx347_0 := (HB.out.cell (World.block_lt_of_cell? w _ hx347_0)).trans hx347_0; replace p347 := eq_true p347; replace q347 := eq_true q347; have p9 : 0 ≤ (a1 : Int) := od_; have q9 : (a1 : Int) < ((t344.length : Int) : Int) := od_; obtain ⟨go9, co9, eo9, gb9, gl9, cl9, HG9⟩ := Kd.R_form HO346.out (by omega); (first | cases eo9 | (injection eo9 with ea_ en_ ec_; (first | subst ea_ | (injection ea_ with ea_; subst ea_)); subst ec_; clear en_)); have GB9 := a_ gb9; have GG9 := a_ HG9; clear gb9 gl9 HG9; obtain ⟨hx9_0, hf9_0⟩ := Kd.R_celln 0 HO346.out (a1 : Int) p9 q9; replace p9 := eq_true p9; replace q9 := eq_true q9; obtain ⟨hy14_, hz14_⟩ := Kd.R_celln 0 HO346.out (a1 : Int) (od_) (od_); have HP14 := Kd.R_putg HO346.out (a1 : Int) (rd l0 (ji4))) | ((with_reducible refine gate_store (t := 3) (p := 15) rfl ?_); refine store_event (t := 3) (p := 15) (v := ?vo_w15) (w1 := (w13.setCell ⟨go9, (a1 : Int).toNat, none⟩ (.int .i64 (rd l0 (ji4))))) ?hg ?ho ?hn ?hr ?_; (case ho => rfl); (case hg => rfl); (case hn => rfl); (case hr => first | (go_simp; done) | (go_simp; rfl)); intro w15 hw; have hg : w13.grownBy w15 (some go9) := (by rw [hw]; exact HP14.2); have hp_ : Kd.R (Kd.int .i64) 3 w15 w.heap.size (fun _ => True) (.slice (some ⟨go9, 0, none⟩) t344.length co9) y348 := (by rw [hw, Ny348.out]; exact HP14.1); clear HP14; replace HO346 := a_ (hp_); replace HB := a_ ((by rw [hw]; exact below_set (HB.out) GB9.out : Below w.heap.size w w15)); clear hg hw hp_; have p349 : 0 ≤ (a1 : Int) := od_; have q349 : a1 < (l0.length : Int) := od_; obtain ⟨ad349, e349, hx349_0⟩ := Kd.at_int HR0.out a1 p349 q349; obtain rfl : ad347 = ad349 := (by injection e349); replace hx349_0 := (HB.out.cell (World.block_lt_of_cell? w _ hx349_0)).trans hx349_0; replace p349 := eq_true p349; replace q349 := eq_true q349; have p12 : 0 ≤ ((ji4) : Int) := od_; have q12 : ((ji4) : Int) < ((t344.length : Int) : Int) := od_; obtain ⟨hx12_0, hf12_0⟩ := Kd.R_celln 0 HO346.out ((ji4) : Int) p12 q12; replace p12 := eq_true p12; replace q12 := eq_true q12; obtain ⟨hy16_, hz16_⟩ := Kd.R_celln 0 HO346.out ((ji4) : Int) (od_) (od_); have HP16 := Kd.R_putg HO346.out ((ji4) : Int) (rd l0 a1)) | ((with_reducible refine gate_store (t := 3) (p := 23) rfl ?_); refine store_event (t := 3) (p := 23) (v := ?vo_w17) (w1 := (w15.setCell ⟨go9, ((ji4) : Int).toNat, none⟩ (.int .i64 (rd l0 a1)))) ?hg ?ho ?hn ?hr ?_; (case ho => rfl); (case hg => rfl); (case hn => rfl); (case hr => first | (go_simp; done) | (go_simp; rfl)); intro w17 hw; have hg : w15.grownBy w17 (some go9) := (by rw [hw]; exact HP16.2); have hp_ : Kd.R (Kd.int .i64) 3 w17 w.heap.size (fun _ => True) (.slice (some ⟨go9, 0, none⟩) t344.length co9) y350 := (by rw [hw, Ny350.out]; exact HP16.1); clear HP16; replace HO346 := a_ (hp_); replace HB := a_ ((by rw [hw]; exact below_set (HB.out) GB9.out : Below w.heap.size w w17)); clear hg hw hp_))
 go_ret
 exact ⟨_, by first | rfl | (simp [errW_none, errW_some] <;> rfl) | (simp only [← hji4]; first | rfl | (simp [errW_none, errW_some] <;> rfl)) | (simp [*, errW_none, errW_some] <;> rfl), by (with_reducible repeat (first | apply Kd.R_alloc | apply Kd.R_drewN | apply Kd.R_drew)); exact HO346.out, Bl_ HB⟩

/-! ### spec_lvTop: function 68 -/
def spec_lvTop.l0 : Nat → List Int → List Int → Int → Int → Option (List Int)
 | 0, _, _, _, _ => none
 | k + 1, x0, x7, x8, x9 => if x9 < x8 then (if 0 ≤ x9 then (if x9 < (x7.length : Int) then ((spec_alSwap.f x0 (rd x7 x9)).bind fun t352 => (spec_lvTop.l0 k t352 x7 x8 (wrap64 (x9 + 1)))) else (none)) else (none)) else (some x0)
def spec_lvTop.f (k : Nat) (l0 : List Int) (l1 : List Int) : Option (List Int) := spec_lvTop.l0 k l0 l1 (l1.length : Int) 0
theorem spec_lvTop.mono_l : ∀ k, (∀ y0 y1 y2 y3, LeO (spec_lvTop.l0 k y0 y1 y2 y3) (spec_lvTop.l0 (k + 1) y0 y1 y2 y3))
 | 0 => fun _ _ _ _ r h => by simp [spec_lvTop.l0] at h
 | k + 1 => by
  have ih0 := spec_lvTop.mono_l k
  ·intro y0 y1 y2 y3
   unfold spec_lvTop.l0
   repeat' first
   | (with_reducible exact ih0 _ _ _ _)
   | (with_reducible exact LeO.refl _)
   | (with_reducible exact LeO.none _)
   | (with_reducible refine LeO.ite ?_ ?_)
   | (with_reducible refine LeO.bind ?_ (fun _ => ?_))
   | exact LeO.none _
   | refine LeO.ite ?_ ?_
   | refine LeO.bind ?_ (fun _ => ?_)
theorem spec_lvTop.mono : ∀ a0 a1 k, LeO (spec_lvTop.f k a0 a1) (spec_lvTop.f (k + 1) a0 a1) := by
 intro a0 a1 k
 have ih0 := spec_lvTop.mono_l k
 unfold spec_lvTop.f
 repeat' first
  | (with_reducible exact ih0 _ _ _ _)
  | (with_reducible exact LeO.refl _)
  | (with_reducible exact LeO.none _)
  | (with_reducible refine LeO.ite ?_ ?_)
  | (with_reducible refine LeO.bind ?_ (fun _ => ?_))
  | exact LeO.none _
  | refine LeO.ite ?_ ?_
  | refine LeO.bind ?_ (fun _ => ?_)
set_option maxHeartbeats 8000000 in
set_option maxRecDepth 100000 in
theorem spec_lvTop.calls (k : Nat) (P0_ : Nat → Prop) (A0 : Option Addr) (c0 : Nat) (l0 : List Int) (A1 : Option Addr) (c1 : Nat) (l1 : List Int) (r : List Int) (w : World) (hs0 : Kd.V (Kd.int .i64) 3 w w.heap.size (fun k_ => P0_ k_) (.slice A0 l0.length c0) l0) (hr1 : Kd.C (Kd.int .i64) w A1 l1.length l1) (hc1 : l1.length ≤ c1) (h : spec_lvTop.f k l0 l1 = some r) :
 Calls Tryz.prog 68 #[.slice A0 l0.length c0, .slice A1 l1.length c1] w fun e w' => ∃ v0_ : Value, e = .returned (v0_) ∧ Kd.V (Kd.int .i64) 3 w' w.heap.size (fun k_ => (P0_ k_ ∨ w.heap.size ≤ k_)) v0_ r ∧ Below w.heap.size w w' := by
 have HO0 := a_ (show Kd.V (Kd.int .i64) 3 w w.heap.size (fun k_ => (P0_ k_ ∨ w.heap.size ≤ k_)) (.slice A0 l0.length c0) l0 from Kd.V_mono hs0 (fun k_ hk => .inl hk))
 have HR1 := a_ hr1
 have HC1 := a_ hc1
 clear hr1 hc1
 have HB := a_ (Below.refl w.heap.size w)
 have H : (spec_lvTop.l0 k l0 l1 (l1.length : Int) 0) = some r := h
 clear h
 have H' := a_ H
 clear H
 go_enter Tryz.func68, Tryz.ntmps68
 go_wp2
 go_loopg [0, 9] k (fun kq v0 v9 w' => ∃ (x0_1 : List Int) (x9_1 : Int), v9 = .int .i64 x9_1 ∧ Aside0 (spec_lvTop.l0 kq x0_1 l1 (l1.length : Int) x9_1 = some r) ∧ Aside0 (kq ≤ k) ∧ Aside0 (Kd.V (Kd.int .i64) 3 w' w.heap.size (fun k_ => (P0_ k_ ∨ w.heap.size ≤ k_)) v0 x0_1) ∧ Aside0 (Below w.heap.size w w'))
 case atStart => exact ⟨(l0), (0), rs_, H', ⟨Nat.le_refl _⟩, ⟨Vl_ HO0.out⟩, ⟨Bl_ HB⟩⟩
 case round =>
  clear H'
  try clear c1
  try clear p2
  obtain ⟨x0_1, x9_1, rfl, HA, HK1, HO_0, HB⟩ := hrel
  cases gk with
  | zero => exact absurd HA.out (by simp [spec_lvTop.l0])
  | succ k1 =>
   have H := HA.out
   clear HA
   simp only [spec_lvTop.l0] at H
   by_cases c3 : x9_1 < (l1.length : Int)
   rotate_left
   ·rw [if_neg c3] at H
    have c3b0 : decide (x9_1 < (l1.length : Int)) = false := decide_eq_false c3
    clear c3
    obtain rfl := Option.some.inj H
    go_wp2
    go_ret
    exact ⟨_, re_, by (with_reducible repeat (first | apply Kd.V_alloc | apply Kd.V_drewN | apply Kd.V_drew)); exact HO_0.out, Bl_ HB⟩
   rw [if_pos c3] at H
   have c3b0 : decide (x9_1 < (l1.length : Int)) = true := decide_eq_true c3
   clear c3
   by_cases c4 : 0 ≤ x9_1
   rotate_left
   ·rw [if_neg c4] at H
    cases H
   rw [if_pos c4] at H
   have c4b0 : decide (0 ≤ x9_1) = true := decide_eq_true c4
   clear c4
   by_cases c5 : x9_1 < (l1.length : Int)
   rotate_left
   ·rw [if_neg c5] at H
    cases H
   rw [if_pos c5] at H
   have c5b0 : decide (x9_1 < (l1.length : Int)) = true := decide_eq_true c5
   clear c5
   obtain ⟨t352, A6, H⟩ := ob_ H
   (try dsimp only at H)
   have H' := a_ H
   clear H
   have p351 : 0 ≤ (x9_1 : Int) := od_
   have q351 : x9_1 < (l1.length : Int) := od_
   obtain ⟨ad351, e351, hx351_0⟩ := Kd.at_int HR1.out x9_1 p351 q351
   cases e351
   replace hx351_0 := (HB.out.cell (World.block_lt_of_cell? w _ hx351_0)).trans hx351_0
   replace p351 := eq_true p351
   replace q351 := eq_true q351
   obtain ⟨Ao7, co7, eo7⟩ := Kd.V_slice HO_0.out
   subst eo7
   go_wp2_with (first | ((with_reducible refine gate_callee (f := 80) rfl ?_); refine gm_ (some 15) Tryz.func80 #[.slice Ao7 x0_1.length co7, .int .i64 (rd l1 x9_1)] rfl ?_; (with_reducible refine (spec_alSwap.calls _ _ x0_1 (rd l1 x9_1) t352 _ ?side1 ?side2 A6.out).mono ?_); (case side1 => repeat (first | exact (Kd.V_reads' HO_0.out).2.2 | (with_reducible refine Kd.C_alloc ?_ _) | (with_reducible refine Kd.C_drewN ?_ _) | (with_reducible refine Kd.C_drew ?_))); (case side2 => exact (Kd.V_reads' HO_0.out).2.1); rintro e w8 ⟨v353, rfl, ho0, hb⟩; refine ⟨_, rfl, ?_⟩; replace HO_0 := a_ (Kd.V_elder' (Vl_ HO_0.out) (Kd.R_base ho0) hb); have HO354 := a_ (Kd.R_lower (Kd.R_newM (M := fun k_ => (w.heap.size ≤ k_)) ho0 (below_size (Bl_ HB)) (fun k_ h_ => h_)) (below_size (Bl_ HB))); replace HB := Bs_ HB hb; (try clear hb); (try clear hb2); (try clear hk); (try clear hi); (try clear ho0)))
   go_roundg k1
   case measure => have := HK1.out; omega
   case rel => exact ⟨(t352), (wrap64 (x9_1 + 1)), rs_, H', ⟨by have := HK1.out; omega⟩, ⟨Kd.V_mono (Kd.R_V (Rl_ (Kd.R_mono HO354.out (fun _ hk => hk.1)))) (fun k_ hk => by first | exact ⟨(.inr (hk.1)), hk.2⟩ | exact (.inr (hk)))⟩, ⟨Bl_ HB⟩⟩

/-! ### spec_lvFar: function 46 -/
mutual
def spec_lvFar.l0 : Nat → Int → List (List Int) → List Int → Int → Int → Option (List Int)
 | 0, _, _, _, _, _ => none
 | k + 1, x0, x3, x4, x18, x19 => if x19 < x18 then (if 0 ≤ x19 then (if x19 < (x4.length : Int) then (spec_lvFar.l0 k x0 x3 (x4.set (x19 : Int).toNat (-1)) x18 (wrap64 (x19 + 1))) else (none)) else (none)) else (if 0 < (x4.length : Int) then ((spec_lvAll.f k x0 0).bind fun t366 => (spec_lvFar.l1 k x3 (x4.set (0 : Int).toNat 0) (([0] : List Int)) t366 0)) else (none))
def spec_lvFar.l1 : Nat → List (List Int) → List Int → List Int → List (List Int) → Int → Option (List Int)
 | 0, _, _, _, _, _ => none
 | k + 1, x3, x4, x6, x7, x8 => if x8 < (x6.length : Int) then (spec_lvFar.l2 k x3 x4 x6 x7 x8 x7 (x7.length : Int) 0) else (some x4)
def spec_lvFar.l2 : Nat → List (List Int) → List Int → List Int → List (List Int) → Int → List (List Int) → Int → Int → Option (List Int)
 | 0, _, _, _, _, _, _, _, _ => none
 | k + 1, x3, x4, x6, x7, x8, x37, x38, x39 => if x39 < x38 then (if 0 ≤ x39 then (if x39 < (x37.length : Int) then (if 0 ≤ x8 then (if x8 < (x6.length : Int) then (if 0 ≤ (rd x6 x8) then (if (rd x6 x8) < (x3.length : Int) then ((spec_lvTop.f k (rd_L2 x3 (rd x6 x8)) (rd_L2 x37 x39)).bind fun t372 => ((spec_alRank.f k t372).bind fun t375 => (if 0 ≤ t375 then (if t375 < (x4.length : Int) then (if (rd x4 t375) < 0 then (if (rd x6 x8) < (x4.length : Int) then (if x6.length < 17592186044416 then (spec_lvFar.l2 k x3 (x4.set (t375 : Int).toNat (wrap64 ((rd x4 (rd x6 x8)) + 1))) (x6 ++ [t375]) x7 x8 x37 x38 (wrap64 (x39 + 1))) else (none)) else (none)) else (spec_lvFar.l2 k x3 x4 x6 x7 x8 x37 x38 (wrap64 (x39 + 1)))) else (none)) else (none)))) else (none)) else (none)) else (none)) else (none)) else (none)) else (none)) else (spec_lvFar.l1 k x3 x4 x6 x7 (wrap64 (x8 + 1)))
end
def spec_lvFar.f (k : Nat) (a0 : Int) : Option (List Int) := (spec_alOrders.f k a0).bind fun t355 => (if 0 ≤ (t355.length : Int) then (if ((t355.length : Int) : Int).toNat ≤ 35184372088832 then ((some (List.replicate ((t355.length : Int) : Int).toNat 0 : List Int)).bind fun y358 => (spec_lvFar.l0 k a0 t355 y358 (y358.length : Int) 0)) else (none)) else (none))
theorem spec_lvFar.mono_l : ∀ k, (∀ y0 y1 y2 y3 y4, LeO (spec_lvFar.l0 k y0 y1 y2 y3 y4) (spec_lvFar.l0 (k + 1) y0 y1 y2 y3 y4)) ∧ (∀ y0 y1 y2 y3 y4, LeO (spec_lvFar.l1 k y0 y1 y2 y3 y4) (spec_lvFar.l1 (k + 1) y0 y1 y2 y3 y4)) ∧ (∀ y0 y1 y2 y3 y4 y5 y6 y7, LeO (spec_lvFar.l2 k y0 y1 y2 y3 y4 y5 y6 y7) (spec_lvFar.l2 (k + 1) y0 y1 y2 y3 y4 y5 y6 y7))
 | 0 => ⟨fun _ _ _ _ _ r h => by simp [spec_lvFar.l0] at h, fun _ _ _ _ _ r h => by simp [spec_lvFar.l1] at h, fun _ _ _ _ _ _ _ _ r h => by simp [spec_lvFar.l2] at h⟩
 | k + 1 => by
  obtain ⟨ih0, ih1, ih2⟩ := spec_lvFar.mono_l k
  refine ⟨?_, ?_, ?_⟩
  ·intro y0 y1 y2 y3 y4
   unfold spec_lvFar.l0
   repeat' first
   | (with_reducible exact ih0 _ _ _ _ _)
   | (with_reducible exact ih1 _ _ _ _ _)
   | (with_reducible exact spec_lvAll.mono _ _ _)
   | (with_reducible exact LeO.refl _)
   | (with_reducible exact LeO.none _)
   | (with_reducible refine LeO.ite ?_ ?_)
   | (with_reducible refine LeO.bind ?_ (fun _ => ?_))
   | exact LeO.none _
   | refine LeO.ite ?_ ?_
   | refine LeO.bind ?_ (fun _ => ?_)
  ·intro y0 y1 y2 y3 y4
   unfold spec_lvFar.l1
   repeat' first
   | (with_reducible exact ih2 _ _ _ _ _ _ _ _)
   | (with_reducible exact LeO.refl _)
   | (with_reducible exact LeO.none _)
   | (with_reducible refine LeO.ite ?_ ?_)
   | (with_reducible refine LeO.bind ?_ (fun _ => ?_))
   | exact LeO.none _
   | refine LeO.ite ?_ ?_
   | refine LeO.bind ?_ (fun _ => ?_)
  ·intro y0 y1 y2 y3 y4 y5 y6 y7
   unfold spec_lvFar.l2
   repeat' first
   | (with_reducible exact ih1 _ _ _ _ _)
   | (with_reducible exact ih2 _ _ _ _ _ _ _ _)
   | (with_reducible exact spec_alRank.mono _ _)
   | (with_reducible exact spec_lvTop.mono _ _ _)
   | (with_reducible exact LeO.refl _)
   | (with_reducible exact LeO.none _)
   | (with_reducible refine LeO.ite ?_ ?_)
   | (with_reducible refine LeO.bind ?_ (fun _ => ?_))
   | exact LeO.none _
   | refine LeO.ite ?_ ?_
   | refine LeO.bind ?_ (fun _ => ?_)
theorem spec_lvFar.mono : ∀ a0 k, LeO (spec_lvFar.f k a0) (spec_lvFar.f (k + 1) a0) := by
 intro a0 k
 obtain ⟨ih0, ih1, ih2⟩ := spec_lvFar.mono_l k
 unfold spec_lvFar.f
 repeat' first
  | (with_reducible exact ih0 _ _ _ _ _)
  | (with_reducible exact spec_alOrders.mono _ _)
  | (with_reducible exact LeO.refl _)
  | (with_reducible exact LeO.none _)
  | (with_reducible refine LeO.ite ?_ ?_)
  | (with_reducible refine LeO.bind ?_ (fun _ => ?_))
  | exact LeO.none _
  | refine LeO.ite ?_ ?_
  | refine LeO.bind ?_ (fun _ => ?_)
set_option maxHeartbeats 8000000 in
set_option maxRecDepth 100000 in
theorem spec_lvFar.calls (k : Nat) (a0 : Int) (r : List Int) (w : World) (h : spec_lvFar.f k a0 = some r) :
 Calls Tryz.prog 46 #[.int .i64 a0] w fun e w' => ∃ v0_ : Value, e = .returned (v0_) ∧ Kd.R (Kd.int .i64) 3 w' w.heap.size (fun _ => True) v0_ r ∧ Below w.heap.size w w' := by
 have HB := a_ (Below.refl w.heap.size w)
 have H : ((spec_alOrders.f k a0).bind fun t355 => (if 0 ≤ (t355.length : Int) then (if ((t355.length : Int) : Int).toNat ≤ 35184372088832 then ((some (List.replicate ((t355.length : Int) : Int).toNat 0 : List Int)).bind fun y358 => (spec_lvFar.l0 k a0 t355 y358 (y358.length : Int) 0)) else (none)) else (none))) = some r := h
 clear h
 obtain ⟨t355, A2, H⟩ := ob_ H
 (try dsimp only at H)
 by_cases c3 : 0 ≤ (t355.length : Int)
 rotate_left
 ·rw [if_neg c3] at H
  cases H
 rw [if_pos c3] at H
 have c3b0 := eq_true c3
 have c3b1 : decide (0 ≤ (t355.length : Int)) = true := decide_eq_true c3
 clear c3
 by_cases c4 : ((t355.length : Int) : Int).toNat ≤ 35184372088832
 rotate_left
 ·rw [if_neg c4] at H
  cases H
 rw [if_pos c4] at H
 have c4b0 := eq_true c4
 have c4b1 : decide (((t355.length : Int) : Int).toNat ≤ 35184372088832) = true := decide_eq_true c4
 clear c4
 obtain ⟨y358, hy358⟩ : ∃ y_ : List Int, y_ = (List.replicate ((t355.length : Int) : Int).toNat 0) := ⟨_, rfl⟩
 replace H : (spec_lvFar.l0 k a0 t355 y358 (y358.length : Int) 0) = some r := by first | (rw [hy358]; with_reducible exact H) | (have H2_ := (Option.bind_some _ _).symm.trans H; rw [hy358]; with_reducible exact H2_) | (have H2_ := (Option.bind_some _ _).symm.trans H; with_reducible exact H2_) | with_reducible exact H | (rw [hy358]; exact H) | exact H
 have Ny358 := a_ hy358
 clear hy358
 have H' := a_ H
 clear H
 go_enter Tryz.func46, Tryz.ntmps46
 go_wp2_with (first | ((with_reducible refine gate_callee (f := 66) rfl ?_); refine gm_ (some 13) Tryz.func66 #[.int .i64 a0] rfl ?_; (with_reducible refine (spec_alOrders.calls k a0 t355 _ A2.out).mono ?_); rintro e w5 ⟨v356, rfl, ho0, hb⟩; refine ⟨_, rfl, ?_⟩; have HO357 := a_ (Kd.S_lower ho0 (below_size (Bl_ HB))); replace HB := Bs_ HB hb; (try clear hb); (try clear hb2); (try clear hk); (try clear hi); (try clear ho0); obtain ⟨Ao6, co6, eo6⟩ := Kd.S_slice HO357.out; subst eo6) | ((with_reducible refine gate_dst (N := 16) rfl ?_); refine Kd.R_make (Kd.int .i64) _ 3 rfl (N := 16) rfl 31 _ _ rfl (t355.length : Int) rfl rfl Tryz.underlying31 (.int .i64 0) 8 info3 rfl (by decide) (by omega) 0 (ok := fun _ => True) (okp := fun _ => True) rfl (fun _ hk => hk) trivial (od_) (Nat.le_trans (Nat.mul_le_mul_right _ (od_ : (t355.length : Int).toNat ≤ 35184372088832)) (by omega)) (Below.refl _ _) (Nat.le_refl _) ?_; intro v359 w7 ho8 hb hg_ hnew_; clear hg_ hnew_; (first | rw [← Ny358.out] at ho8 | (simp only [Int.reduceToNat] at ho8; rw [← Ny358.out] at ho8)); replace HO357 := a_ (Kd.S_elder' (Sl_ HO357.out) (Kd.R_base ho8) hb); have HO360 := a_ (Kd.R_lower ho8 (below_size (Bl_ HB))); replace HB := Bs_ HB hb; clear hb ho8; obtain ⟨Ao9, co9, eo9⟩ := Kd.R_slice HO360.out; subst eo9))
 go_loopg [19] k (fun kq v19 w' => ∃ (x4_1 : List Int) (x19_1 : Int), v19 = .int .i64 x19_1 ∧ Aside0 (spec_lvFar.l0 kq a0 t355 x4_1 (y358.length : Int) x19_1 = some r) ∧ Aside0 (kq ≤ k) ∧ Aside0 (Kd.S (Kd.slice 3 (Kd.int .i64)) 31 w' w.heap.size (fun k_ => some k_ ≠ ((.slice Ao9 y358.length co9) : Value).ownBlock) (.slice Ao6 t355.length co6) t355) ∧ Aside0 (Kd.R (Kd.int .i64) 3 w' w.heap.size (fun _ => True) (.slice Ao9 y358.length co9) x4_1) ∧ Aside0 (Below w.heap.size w w'))
 case atStart => exact ⟨(y358), (0), rs_, H', ⟨Nat.le_refl _⟩, ⟨by (with_reducible repeat (first | apply Kd.S_alloc | apply Kd.S_drewN | apply Kd.S_drew)); exact Kd.S_mono HO357.out (fun _ hk => by revert hk; (try simp only [and_imp, true_implies]); intros; (repeat' apply And.intro) <;> first | assumption | trivial)⟩, ⟨Rl_ HO360.out⟩, ⟨Bl_ HB⟩⟩
 case round =>
  as_aux_lemma =>
  clear H'
  try clear p2
  try clear c3
  try clear c3b0
  try clear c3b1
  try clear c4
  try clear c4b0
  try clear c4b1
  try clear c6
  obtain ⟨x4_1, x19_1, rfl, HA, HK1, HO_3, HO_4, HB⟩ := hrel
  have hl4_1 := (Kd.R_reads' HO_4.out).1
  rw [hl4_1] at HO_4
  (try simp only [hl4_1])
  (try simp only [hl4_1] at HO_3)
  cases gk with
  | zero => exact absurd HA.out (by simp [spec_lvFar.l0])
  | succ k1 =>
   have H := HA.out
   clear HA
   simp only [spec_lvFar.l0] at H
   by_cases c10 : x19_1 < (y358.length : Int)
   ·rw [if_pos c10] at H
    have c10b0 : decide (x19_1 < (y358.length : Int)) = true := decide_eq_true c10
    clear c10
    by_cases c11 : 0 ≤ x19_1
    rotate_left
    ·rw [if_neg c11] at H
     cases H
    rw [if_pos c11] at H
    have c11b0 : decide (0 ≤ x19_1) = true := decide_eq_true c11
    clear c11
    by_cases c12 : x19_1 < (x4_1.length : Int)
    rotate_left
    ·rw [if_neg c12] at H
     cases H
    rw [if_pos c12] at H
    have c12b0 : decide (x19_1 < (x4_1.length : Int)) = true := decide_eq_true c12
    clear c12
    obtain ⟨y361, hy361⟩ : ∃ y_ : List Int, y_ = (x4_1.set (x19_1 : Int).toNat (-1)) := ⟨_, rfl⟩
    replace H : (spec_lvFar.l0 k1 a0 t355 y361 (y358.length : Int) (wrap64 (x19_1 + 1))) = some r := by first | (rw [hy361]; with_reducible exact H) | (have H2_ := (Option.bind_some _ _).symm.trans H; rw [hy361]; with_reducible exact H2_) | (have H2_ := (Option.bind_some _ _).symm.trans H; with_reducible exact H2_) | with_reducible exact H | (rw [hy361]; exact H) | exact H
    have Ny361 := a_ hy361
    clear hy361
    have H' := a_ H
    clear H
    have p13 : 0 ≤ (x19_1 : Int) := od_
    have q13 : (x19_1 : Int) < ((x4_1.length : Int) : Int) := od_
    obtain ⟨go13, co13, eo13, gb13, gl13, cl13, HG13⟩ := Kd.R_form HO_4.out (by omega)
    (first | cases eo13 | (injection eo13 with ea_ en_ ec_; (first | subst ea_ | (injection ea_ with ea_; subst ea_)); subst ec_; clear en_))
    have GB13 := a_ gb13
    have GG13 := a_ HG13
    clear gb13 gl13 HG13
    obtain ⟨hx13_0, hf13_0⟩ := Kd.R_celln 0 HO_4.out (x19_1 : Int) p13 q13
    replace p13 := eq_true p13
    replace q13 := eq_true q13
    have HP14 := Kd.R_putg HO_4.out (x19_1 : Int) (-1)
    go_wp2_with (first | ((with_reducible refine gate_store (t := 3) (p := 24) rfl ?_); refine store_event (t := 3) (p := 24) (v := ?vo_w15) (w1 := (wr.setCell ⟨go13, (x19_1 : Int).toNat, none⟩ (.int .i64 (-1)))) ?hg ?ho ?hn ?hr ?_; (case ho => rfl); (case hg => rfl); (case hn => rfl); (case hr => first | (go_simp; done) | (go_simp; rfl)); intro w15 hw; have hg : wr.grownBy w15 (some go13) := (by rw [hw]; exact HP14.2); have hp_ : Kd.R (Kd.int .i64) 3 w15 w.heap.size (fun _ => True) (.slice (some ⟨go13, 0, none⟩) x4_1.length co9) y361 := (by rw [hw, Ny361.out]; exact HP14.1); clear HP14; replace HO_3 := a_ (Kd.S_after (v := (.slice (some ⟨go13, 0, none⟩) x4_1.length co9)) (v1 := (.slice (some ⟨go13, 0, none⟩) x4_1.length co9)) (ok := (fun _ => True)) (by (with_reducible repeat (first | apply Kd.S_alloc | apply Kd.S_drewN | apply Kd.S_drew)); exact Kd.S_mono HO_3.out (fun _ hk => by revert hk; (try simp only [and_imp, true_implies]); intros; (repeat' apply And.intro) <;> first | assumption | trivial)) hg (.inl rfl)); replace HO_4 := a_ (hp_); replace HB := a_ ((by rw [hw]; exact below_set (HB.out) GB13.out : Below w.heap.size w w15)); clear hg hw hp_))
    (try simp only [← hl4_1])
    go_roundg k1
    case measure => have := HK1.out; omega
    case rel => exact ⟨(y361), (wrap64 (x19_1 + 1)), rs_, H', ⟨by have := HK1.out; omega⟩, ⟨by (try simp only [hl4_1]); (with_reducible repeat (first | apply Kd.S_alloc | apply Kd.S_drewN | apply Kd.S_drew)); exact Kd.S_mono HO_3.out (fun _ hk => by revert hk; (try simp only [and_imp, true_implies]); intros; (repeat' apply And.intro) <;> first | assumption | trivial)⟩, ⟨by (try simp only [hl4_1]); (with_reducible repeat (first | apply Kd.R_alloc | apply Kd.R_drewN | apply Kd.R_drew)); exact HO_4.out⟩, ⟨Bl_ HB⟩⟩
   rw [if_neg c10] at H
   have c10b0 : decide (x19_1 < (y358.length : Int)) = false := decide_eq_false c10
   have c10d0 : decide (x19_1 < (x4_1.length : Int)) = false := by rw [← hl4_1]; exact c10b0
   clear c10
   by_cases c16 : 0 < (x4_1.length : Int)
   rotate_left
   ·rw [if_neg c16] at H
    cases H
   rw [if_pos c16] at H
   have c16b0 : decide (0 < (x4_1.length : Int)) = true := decide_eq_true c16
   have c16b1 : decide (0 < x4_1.length) = true := decide_eq_true (by omega)
   clear c16
   obtain ⟨y362, hy362⟩ : ∃ y_ : List Int, y_ = (x4_1.set (0 : Int).toNat 0) := ⟨_, rfl⟩
   replace H : ((spec_lvAll.f k1 a0 0).bind fun t366 => (spec_lvFar.l1 k1 t355 y362 (([0] : List Int)) t366 0)) = some r := by first | (rw [hy362]; with_reducible exact H) | (have H2_ := (Option.bind_some _ _).symm.trans H; rw [hy362]; with_reducible exact H2_) | (have H2_ := (Option.bind_some _ _).symm.trans H; with_reducible exact H2_) | with_reducible exact H | (rw [hy362]; exact H) | exact H
   have Ny362 := a_ hy362
   clear hy362
   obtain ⟨y363, hy363⟩ : ∃ y_ : List Int, y_ = (([0] : List Int)) := ⟨_, rfl⟩
   replace H : ((spec_lvAll.f k1 a0 0).bind fun t366 => (spec_lvFar.l1 k1 t355 y362 y363 t366 0)) = some r := by first | (rw [hy363]; with_reducible exact H) | (have H2_ := (Option.bind_some _ _).symm.trans H; rw [hy363]; with_reducible exact H2_) | (have H2_ := (Option.bind_some _ _).symm.trans H; with_reducible exact H2_) | with_reducible exact H | (rw [hy363]; exact H) | exact H
   have Ny363 := a_ hy363
   clear hy363
   obtain ⟨t366, A18, H⟩ := ob_ H
   (try dsimp only at H)
   have H' := a_ H
   clear H
   have p17 : 0 ≤ (0 : Int) := (by omega)
   have q17 : (0 : Int) < ((x4_1.length : Int) : Int) := od_
   have qi17 : (0 < x4_1.length) = True := eq_true (by omega)
   obtain ⟨go17, co17, eo17, gb17, gl17, cl17, HG17⟩ := Kd.R_form HO_4.out (by omega)
   (first | cases eo17 | (injection eo17 with ea_ en_ ec_; (first | subst ea_ | (injection ea_ with ea_; subst ea_)); subst ec_; clear en_))
   have GB17 := a_ gb17
   have GG17 := a_ HG17
   clear gb17 gl17 HG17
   obtain ⟨hx17_0, hf17_0⟩ := Kd.R_celln 0 HO_4.out (0 : Int) p17 q17
   (try rw [show ((0 : Int)).toNat = 0 from rfl] at hx17_0)
   (try simp only [Nat.reduceMul, Nat.zero_mul, Nat.zero_add, Nat.reduceAdd] at hx17_0)
   (try rw [show ((0 : Int)).toNat = 0 from rfl] at hf17_0)
   (try simp only [Nat.reduceMul, Nat.zero_mul, Nat.zero_add, Nat.reduceAdd] at hf17_0)
   replace p17 := eq_true p17
   replace q17 := eq_true q17
   have HP19 := Kd.R_putg HO_4.out (0 : Int) 0
   go_wp2_with (first | ((with_reducible refine gate_store (t := 3) (p := 27) rfl ?_); refine store_event (t := 3) (p := 27) (v := ?vo_w20) (w1 := (wr.setCell ⟨go17, (0 : Int).toNat, none⟩ (.int .i64 0))) ?hg ?ho ?hn ?hr ?_; (case ho => rfl); (case hg => rfl); (case hn => rfl); (case hr => first | (go_simp; done) | (go_simp; rfl)); intro w20 hw; have hg : wr.grownBy w20 (some go17) := (by rw [hw]; exact HP19.2); have hp_ : Kd.R (Kd.int .i64) 3 w20 w.heap.size (fun _ => True) (.slice (some ⟨go17, 0, none⟩) x4_1.length co9) y362 := (by rw [hw, Ny362.out]; exact HP19.1); clear HP19; replace HO_3 := a_ (Kd.S_after (v := (.slice (some ⟨go17, 0, none⟩) x4_1.length co9)) (v1 := (.slice (some ⟨go17, 0, none⟩) x4_1.length co9)) (ok := (fun _ => True)) (by (with_reducible repeat (first | apply Kd.S_alloc | apply Kd.S_drewN | apply Kd.S_drew)); exact Kd.S_mono HO_3.out (fun _ hk => by revert hk; (try simp only [and_imp, true_implies]); intros; (repeat' apply And.intro) <;> first | assumption | trivial)) hg (.inl rfl)); replace HO_4 := a_ (hp_); replace HB := a_ ((by rw [hw]; exact below_set (HB.out) GB17.out : Below w.heap.size w w20)); clear hg hw hp_) | ((with_reducible refine gate_dst (N := 28) rfl ?_); refine Kd.R_lit (Kd.int .i64) _ 3 ?hg (N := 28) ?hd (xs := ([0] : List Int)) (inner := [.int .i64 0]) (ok := fun _ => True) (okp := fun _ => True) ?hr ?hp (fun _ hk => hk) trivial (Below.refl _ _) (Nat.le_refl _) (by simp) ?_; (case hd => rfl); (case hg => rfl); (case hr => first | (go_simp; done) | (go_simp; rfl)); (case hp => exact (Reps.one (show Kd.M (Kd.int .i64) _ _ _ 0 [.int .i64 0] from rfl) (Reps.none _ _))); intro v364 w21 ho22 hb hg_ hnew_; clear hg_ hnew_; (first | rw [← Ny363.out] at ho22 | (simp only [Int.reduceToNat] at ho22; rw [← Ny363.out] at ho22)); replace HO_3 := a_ (Kd.S_elder' (Sl_ HO_3.out) (Kd.R_base ho22) hb); have HO365 := a_ (Kd.R_lower (Kd.R_new' ho22 (Kd.R_lt (Rl_ HO_4.out))) (below_size (Bl_ HB))); replace HO_4 := a_ (Kd.R_elder' (Rl_ HO_4.out) (Kd.R_base ho22) hb); replace HB := Bs_ HB hb; clear hb ho22) | ((with_reducible refine gate_callee (f := 35) rfl ?_); refine gm_ (some 30) Tryz.func35 #[.int .i64 a0, .int .i64 0] rfl ?_; (with_reducible refine (spec_lvAll.calls k1 a0 0 t366 _ A18.out).mono ?_); rintro e w23 ⟨v367, rfl, ho0, hb⟩; refine ⟨_, rfl, ?_⟩; have HO368 := a_ (Kd.S_lower (Kd.S_new' (Kd.S_new' (Kd.S_new' ho0 (Kd.S_lt (Sl_ HO_3.out))) (Kd.R_lt (Rl_ HO_4.out))) (Kd.R_lt (Rl_ HO365.out))) (below_size (Bl_ HB))); replace HO_3 := a_ (Kd.S_elder' (Sl_ HO_3.out) (Kd.S_base ho0) hb); replace HO_4 := a_ (Kd.R_below (Rl_ HO_4.out) hb); replace HO365 := a_ (Kd.R_below (Rl_ HO365.out) hb); replace HB := Bs_ HB hb; (try clear hb); (try clear hb2); (try clear hk); (try clear hi); (try clear ho0)))
   go_loopg [6, 8] k1 (fun kq v6 v8 w' => ∃ (x4_2 : List Int) (x6_2 : List Int) (x8_2 : Int), v8 = .int .i64 x8_2 ∧ Aside0 (spec_lvFar.l1 kq t355 x4_2 x6_2 t366 x8_2 = some r) ∧ Aside0 (kq ≤ k1) ∧ Aside0 (Kd.S (Kd.slice 3 (Kd.int .i64)) 31 w' w.heap.size (fun k_ => some k_ ≠ ((.slice (some ⟨go17, 0, none⟩) x4_1.length co9) : Value).ownBlock ∧ some k_ ≠ (v6 : Value).ownBlock ∧ some k_ ≠ (v367 : Value).ownBlock) (.slice Ao6 t355.length co6) t355) ∧ Aside0 (Kd.R (Kd.int .i64) 3 w' w.heap.size (fun k_ => some k_ ≠ (v6 : Value).ownBlock) (.slice (some ⟨go17, 0, none⟩) x4_1.length co9) x4_2) ∧ Aside0 (Kd.R (Kd.int .i64) 3 w' w.heap.size (fun k_ => some k_ ≠ ((.slice (some ⟨go17, 0, none⟩) x4_1.length co9) : Value).ownBlock) v6 x6_2) ∧ Aside0 (Kd.S (Kd.slice 3 (Kd.int .i64)) 31 w' w.heap.size (fun k_ => some k_ ≠ ((.slice Ao6 t355.length co6) : Value).ownBlock ∧ some k_ ≠ ((.slice (some ⟨go17, 0, none⟩) x4_1.length co9) : Value).ownBlock ∧ some k_ ≠ (v6 : Value).ownBlock) v367 t366) ∧ Aside0 (Below w.heap.size w w'))
   case atStart => exact ⟨(y362), (y363), (0), rs_, H', ⟨Nat.le_refl _⟩, ⟨by (try simp only [hl4_1]); (with_reducible repeat (first | apply Kd.S_alloc | apply Kd.S_drewN | apply Kd.S_drew)); exact Kd.S_mono HO_3.out (fun _ hk => by revert hk; (try simp only [and_imp, true_implies]); intros; (repeat' apply And.intro) <;> first | assumption | trivial)⟩, ⟨by (try simp only [hl4_1]); (with_reducible repeat (first | apply Kd.R_alloc | apply Kd.R_drewN | apply Kd.R_drew)); exact Kd.R_mono HO_4.out (fun _ hk => by revert hk; (try simp only [and_imp, true_implies]); intros; (repeat' apply And.intro) <;> first | assumption | trivial)⟩, ⟨by (try simp only [hl4_1]); (with_reducible repeat (first | apply Kd.R_alloc | apply Kd.R_drewN | apply Kd.R_drew)); exact Kd.R_mono HO365.out (fun _ hk => by revert hk; (try simp only [and_imp, true_implies]); intros; (repeat' apply And.intro) <;> first | assumption | trivial)⟩, ⟨by (try simp only [hl4_1]); (with_reducible repeat (first | apply Kd.S_alloc | apply Kd.S_drewN | apply Kd.S_drew)); exact Kd.S_mono HO368.out (fun _ hk => by revert hk; (try simp only [and_imp, true_implies]); intros; (repeat' apply And.intro) <;> first | assumption | trivial)⟩, ⟨Bl_ HB⟩⟩
   case round =>
    as_aux_lemma =>
    clear H'
    try clear c1
    try clear p1
    try clear q1
    try clear hx1
    try clear qi1
    try clear hf1
    try clear p2
    try clear c3
    try clear c3b0
    try clear c3b1
    try clear c4
    try clear c4b0
    try clear c4b1
    try clear c6
    try clear p6
    try clear c10
    try clear c10b0
    try clear c11
    try clear c11b0
    try clear c12
    try clear c12b0
    try clear p13
    try clear q13
    try clear hx13
    try clear hf13
    try clear c16
    try clear c16b0
    try clear c16b1
    try clear p17
    try clear q17
    try clear hx17
    try clear qi17
    try clear hf17
    try clear hx13_0
    try clear hx17_0
    try clear p13
    try clear p17
    try clear p2
    try clear q13
    try clear q17
    obtain ⟨x4_2, x6_2, x8_2, rfl, HA, HK2, HO_3, HO_4, HO_6, HO_7, HB⟩ := hrel
    have hl4_2 := (Kd.R_reads' HO_4.out).1
    rw [hl4_2] at HO_4
    (try simp only [hl4_2])
    (try simp only [hl4_2] at HO_3)
    (try simp only [hl4_2] at HO_6)
    (try simp only [hl4_2] at HO_7)
    cases gk with
    | zero => exact absurd HA.out (by simp [spec_lvFar.l1])
    | succ k2 =>
     have H := HA.out
     clear HA
     simp only [spec_lvFar.l1] at H
     by_cases c24 : x8_2 < (x6_2.length : Int)
     rotate_left
     ·rw [if_neg c24] at H
      have c24b0 : decide (x8_2 < (x6_2.length : Int)) = false := decide_eq_false c24
      clear c24
      obtain rfl := Option.some.inj H
      obtain ⟨Ao51, co51, eo51⟩ := Kd.R_slice HO_6.out
      subst eo51
      go_wp2
      go_ret
      exact ⟨_, re_, by (with_reducible repeat (first | apply Kd.R_alloc | apply Kd.R_drewN | apply Kd.R_drew)); exact Kd.R_mono HO_4.out (fun _ hk => trivial), Bl_ HB⟩
     rw [if_pos c24] at H
     have c24b0 : decide (x8_2 < (x6_2.length : Int)) = true := decide_eq_true c24
     clear c24
     have H' := a_ H
     clear H
     obtain ⟨Ao25, co25, eo25⟩ := Kd.R_slice HO_6.out
     subst eo25
     obtain ⟨Ao26, co26, eo26⟩ := Kd.S_slice HO_7.out
     subst eo26
     go_wp2
     go_loopg [6, 39] k2 (fun kq v6 v39 w' => ∃ (x4_3 : List Int) (x6_3 : List Int) (x39_3 : Int), v39 = .int .i64 x39_3 ∧ Aside0 (spec_lvFar.l2 kq t355 x4_3 x6_3 t366 x8_2 t366 (t366.length : Int) x39_3 = some r) ∧ Aside0 (kq ≤ k2) ∧ Aside0 (Kd.S (Kd.slice 3 (Kd.int .i64)) 31 w' w.heap.size (fun k_ => some k_ ≠ ((.slice (some ⟨go17, 0, none⟩) x4_2.length co9) : Value).ownBlock ∧ some k_ ≠ (v6 : Value).ownBlock ∧ some k_ ≠ ((.slice Ao26 t366.length co26) : Value).ownBlock ∧ some k_ ≠ ((.slice Ao26 t366.length co26) : Value).ownBlock) (.slice Ao6 t355.length co6) t355) ∧ Aside0 (Kd.R (Kd.int .i64) 3 w' w.heap.size (fun k_ => some k_ ≠ (v6 : Value).ownBlock) (.slice (some ⟨go17, 0, none⟩) x4_2.length co9) x4_3) ∧ Aside0 (Kd.R (Kd.int .i64) 3 w' w.heap.size (fun k_ => some k_ ≠ ((.slice (some ⟨go17, 0, none⟩) x4_2.length co9) : Value).ownBlock) v6 x6_3) ∧ Aside0 (Kd.S (Kd.slice 3 (Kd.int .i64)) 31 w' w.heap.size (fun k_ => some k_ ≠ ((.slice Ao6 t355.length co6) : Value).ownBlock ∧ some k_ ≠ ((.slice (some ⟨go17, 0, none⟩) x4_2.length co9) : Value).ownBlock ∧ some k_ ≠ (v6 : Value).ownBlock) (.slice Ao26 t366.length co26) t366) ∧ Aside0 (Kd.S (Kd.slice 3 (Kd.int .i64)) 31 w' w.heap.size (fun k_ => some k_ ≠ ((.slice Ao6 t355.length co6) : Value).ownBlock ∧ some k_ ≠ ((.slice (some ⟨go17, 0, none⟩) x4_2.length co9) : Value).ownBlock ∧ some k_ ≠ (v6 : Value).ownBlock) (.slice Ao26 t366.length co26) t366) ∧ Aside0 (Below w.heap.size w w'))
     case atStart => exact ⟨(x4_2), (x6_2), (0), rs_, H', ⟨Nat.le_refl _⟩, ⟨by (try simp only [hl4_1]); (try simp only [hl4_2]); (with_reducible repeat (first | apply Kd.S_alloc | apply Kd.S_drewN | apply Kd.S_drew)); exact Kd.S_mono HO_3.out (fun _ hk => by revert hk; (try simp only [and_imp, true_implies]); intros; (repeat' apply And.intro) <;> first | assumption | trivial)⟩, ⟨by (try simp only [hl4_1]); (try simp only [hl4_2]); (with_reducible repeat (first | apply Kd.R_alloc | apply Kd.R_drewN | apply Kd.R_drew)); exact HO_4.out⟩, ⟨by (try simp only [hl4_1]); (try simp only [hl4_2]); (with_reducible repeat (first | apply Kd.R_alloc | apply Kd.R_drewN | apply Kd.R_drew)); exact HO_6.out⟩, ⟨by (try simp only [hl4_1]); (try simp only [hl4_2]); (with_reducible repeat (first | apply Kd.S_alloc | apply Kd.S_drewN | apply Kd.S_drew)); exact HO_7.out⟩, ⟨by (try simp only [hl4_1]); (try simp only [hl4_2]); (with_reducible repeat (first | apply Kd.S_alloc | apply Kd.S_drewN | apply Kd.S_drew)); exact HO_7.out⟩, ⟨Bl_ HB⟩⟩
     case round =>
      as_aux_lemma =>
      clear H'
      try clear c1
      try clear p1
      try clear q1
      try clear hx1
      try clear qi1
      try clear hf1
      try clear c2
      try clear p2
      try clear c3
      try clear c3b0
      try clear c3b1
      try clear c4
      try clear c4b0
      try clear c4b1
      try clear c6
      try clear p6
      try clear c10
      try clear c10b0
      try clear c11
      try clear c11b0
      try clear c12
      try clear c12b0
      try clear p13
      try clear q13
      try clear hx13
      try clear hf13
      try clear c16
      try clear c16b0
      try clear c16b1
      try clear p17
      try clear q17
      try clear hx17
      try clear qi17
      try clear hf17
      try clear c24
      try clear c24b0
      try clear hx13_0
      try clear hx17_0
      try clear p1
      try clear p13
      try clear p17
      try clear p2
      try clear p6
      try clear q1
      try clear q13
      try clear q17
      obtain ⟨x4_3, x6_3, x39_3, rfl, HA, HK3, HO_3, HO_4, HO_6, HO_7, HO_37, HB⟩ := hrel
      have hl4_3 := (Kd.R_reads' HO_4.out).1
      rw [hl4_3] at HO_4
      (try simp only [hl4_3])
      (try simp only [hl4_3] at HO_3)
      (try simp only [hl4_3] at HO_6)
      (try simp only [hl4_3] at HO_7)
      (try simp only [hl4_3] at HO_37)
      cases gk with
      | zero => exact absurd HA.out (by simp [spec_lvFar.l2])
      | succ k3 =>
       have H := HA.out
       clear HA
       simp only [spec_lvFar.l2] at H
       by_cases c27 : x39_3 < (t366.length : Int)
       rotate_left
       ·rw [if_neg c27] at H
        have c27b0 : decide (x39_3 < (t366.length : Int)) = false := decide_eq_false c27
        clear c27
        have H' := a_ H
        clear H
        go_wp2
        (try simp only [← hl4_2, ← hl4_3])
        go_roundg k3
        case measure => have := HK1.out; have := HK2.out; have := HK3.out; omega
        case rel => exact ⟨(x4_3), (x6_3), (wrap64 (x8_2 + 1)), rs_, H', ⟨by have := HK1.out; have := HK2.out; have := HK3.out; omega⟩, ⟨by (try simp only [hl4_1]); (try simp only [hl4_2]); (try simp only [hl4_3]); (with_reducible repeat (first | apply Kd.S_alloc | apply Kd.S_drewN | apply Kd.S_drew)); exact Kd.S_mono HO_3.out (fun _ hk => by revert hk; (try simp only [and_imp, true_implies]); intros; (repeat' apply And.intro) <;> first | assumption | trivial)⟩, ⟨by (try simp only [hl4_1]); (try simp only [hl4_2]); (try simp only [hl4_3]); (with_reducible repeat (first | apply Kd.R_alloc | apply Kd.R_drewN | apply Kd.R_drew)); exact HO_4.out⟩, ⟨by (try simp only [hl4_1]); (try simp only [hl4_2]); (try simp only [hl4_3]); (with_reducible repeat (first | apply Kd.R_alloc | apply Kd.R_drewN | apply Kd.R_drew)); exact HO_6.out⟩, ⟨by (try simp only [hl4_1]); (try simp only [hl4_2]); (try simp only [hl4_3]); (with_reducible repeat (first | apply Kd.S_alloc | apply Kd.S_drewN | apply Kd.S_drew)); exact HO_7.out⟩, ⟨Bl_ HB⟩⟩
       rw [if_pos c27] at H
       have c27b0 : decide (x39_3 < (t366.length : Int)) = true := decide_eq_true c27
       clear c27
       by_cases c28 : 0 ≤ x39_3
       rotate_left
       ·rw [if_neg c28] at H
        cases H
       rw [if_pos c28] at H
       have c28b0 : decide (0 ≤ x39_3) = true := decide_eq_true c28
       clear c28
       by_cases c29 : x39_3 < (t366.length : Int)
       rotate_left
       ·rw [if_neg c29] at H
        cases H
       rw [if_pos c29] at H
       have c29b0 : decide (x39_3 < (t366.length : Int)) = true := decide_eq_true c29
       clear c29
       by_cases c30 : 0 ≤ x8_2
       rotate_left
       ·rw [if_neg c30] at H
        cases H
       rw [if_pos c30] at H
       have c30b0 : decide (0 ≤ x8_2) = true := decide_eq_true c30
       clear c30
       by_cases c31 : x8_2 < (x6_3.length : Int)
       rotate_left
       ·rw [if_neg c31] at H
        cases H
       rw [if_pos c31] at H
       have c31b0 : decide (x8_2 < (x6_3.length : Int)) = true := decide_eq_true c31
       clear c31
       by_cases c32 : 0 ≤ (rd x6_3 x8_2)
       rotate_left
       ·rw [if_neg c32] at H
        cases H
       rw [if_pos c32] at H
       have c32b0 : decide (0 ≤ (rd x6_3 x8_2)) = true := decide_eq_true c32
       clear c32
       by_cases c33 : (rd x6_3 x8_2) < (t355.length : Int)
       rotate_left
       ·rw [if_neg c33] at H
        cases H
       rw [if_pos c33] at H
       have c33b0 : decide ((rd x6_3 x8_2) < (t355.length : Int)) = true := decide_eq_true c33
       clear c33
       obtain ⟨t372, A34, H⟩ := ob_ H
       (try dsimp only at H)
       obtain ⟨t375, A35, H⟩ := ob_ H
       (try dsimp only at H)
       by_cases c36 : 0 ≤ t375
       rotate_left
       ·rw [if_neg c36] at H
        cases H
       rw [if_pos c36] at H
       have c36b0 : decide (0 ≤ t375) = true := decide_eq_true c36
       clear c36
       by_cases c37 : t375 < (x4_3.length : Int)
       rotate_left
       ·rw [if_neg c37] at H
        cases H
       rw [if_pos c37] at H
       have c37b0 : decide (t375 < (x4_3.length : Int)) = true := decide_eq_true c37
       clear c37
       by_cases c38 : (rd x4_3 t375) < 0
       rotate_left
       ·rw [if_neg c38] at H
        have c38b0 : decide ((rd x4_3 t375) < 0) = false := decide_eq_false c38
        clear c38
        have H' := a_ H
        clear H
        have p369 : 0 ≤ (x39_3 : Int) := od_
        have q369 : x39_3 < (t366.length : Int) := od_
        obtain ⟨ad369, A369_0, c369_0, e369, hx369_0, hl369_0, hi369_0⟩ := at_L2 (Kd.S_reads' HO_37.out).2.2 x39_3 p369 q369
        cases e369
        obtain ⟨ce369, hce369, hMe369, hcc369⟩ := Kd.S_get HO_37.out [] x39_3 p369 (by first | exact q369 | exact od_ | (have e_ := (Kd.S_reads' HO_37.out).1; omega))
        obtain ⟨ve369_0, rfl, ge369_0⟩ := hMe369
        have hv369_0 := hcc369 0 _ rfl
        rw [Nat.add_zero, show ((Kd.slice 3 (Kd.int .i64))).sz = 1 from rfl, Nat.mul_one] at hv369_0
        replace hv369_0 := Option.some.inj (hv369_0.symm.trans hx369_0)
        rw [hv369_0] at ge369_0
        have HL369_0 := a_ (show Kd.R (Kd.int .i64) 3 _ _ _ _ (rd_L2 t366 x39_3) from ge369_0)
        clear hv369_0 ge369_0
        clear hcc369 hce369
        have HR369_0 := a_ hi369_0
        have HC369_0 := a_ hl369_0
        clear hi369_0 hl369_0
        replace p369 := eq_true p369
        replace q369 := eq_true q369
        obtain ⟨Ao48, co48, eo48⟩ := Kd.R_slice HO_6.out
        subst eo48
        have p370 : 0 ≤ (x8_2 : Int) := od_
        have q370 : x8_2 < (x6_3.length : Int) := od_
        obtain ⟨ad370, e370, hx370_0⟩ := Kd.at_int (Kd.R_reads' HO_6.out).2.2 x8_2 p370 q370
        cases e370
        replace p370 := eq_true p370
        replace q370 := eq_true q370
        have p371 : 0 ≤ ((rd x6_3 x8_2) : Int) := od_
        have q371 : (rd x6_3 x8_2) < (t355.length : Int) := od_
        obtain ⟨ad371, A371_0, c371_0, e371, hx371_0, hl371_0, hi371_0⟩ := at_L2 (Kd.S_reads' HO_3.out).2.2 (rd x6_3 x8_2) p371 q371
        cases e371
        obtain ⟨ce371, hce371, hMe371, hcc371⟩ := Kd.S_get HO_3.out [] (rd x6_3 x8_2) p371 (by first | exact q371 | exact od_ | (have e_ := (Kd.S_reads' HO_3.out).1; omega))
        obtain ⟨ve371_0, rfl, ge371_0⟩ := hMe371
        have hv371_0 := hcc371 0 _ rfl
        rw [Nat.add_zero, show ((Kd.slice 3 (Kd.int .i64))).sz = 1 from rfl, Nat.mul_one] at hv371_0
        replace hv371_0 := Option.some.inj (hv371_0.symm.trans hx371_0)
        rw [hv371_0] at ge371_0
        have HL371_0 := a_ (show Kd.R (Kd.int .i64) 3 _ _ _ _ (rd_L2 t355 (rd x6_3 x8_2)) from ge371_0)
        clear hv371_0 ge371_0
        clear hcc371 hce371
        have HR371_0 := a_ hi371_0
        have HC371_0 := a_ hl371_0
        clear hi371_0 hl371_0
        replace p371 := eq_true p371
        replace q371 := eq_true q371
        go_wp2_with (first | ((with_reducible refine gate_callee (f := 68) rfl ?_); refine gm_ (some 51) Tryz.func68 #[.slice A371_0 (rd_L2 t355 (rd x6_3 x8_2)).length c371_0, .slice A369_0 (rd_L2 t366 x39_3).length c369_0] rfl ?_; (with_reducible refine (spec_lvTop.calls k3 (fun k_ => some k_ = (.slice A371_0 (rd_L2 t355 (rd x6_3 x8_2)).length c371_0 : Value).ownBlock) _ _ (rd_L2 t355 (rd x6_3 x8_2)) _ _ (rd_L2 t366 x39_3) t372 _ ?side1 ?side2 ?side3 A34.out).mono ?_); (case side1 => exact Kd.R_V (Kd.R_tight rfl (HL371_0.out))); (case side2 => repeat (first | exact (by repeat (first | (with_reducible exact HR369_0.out) | (with_reducible refine Kd.C_alloc ?_ _) | (with_reducible refine Kd.C_drewN ?_ _) | (with_reducible refine Kd.C_drew ?_) | exact HR369_0.out)) | (with_reducible refine Kd.C_alloc ?_ _) | (with_reducible refine Kd.C_drewN ?_ _) | (with_reducible refine Kd.C_drew ?_))); (case side3 => exact HC369_0.out); rintro e w49 ⟨v373, rfl, ho0, hb⟩; refine ⟨_, rfl, ?_⟩; replace HL369_0 := a_ (Kd.R_below (Rl_ HL369_0.out) hb); have HO374 := a_ (Kd.V_lower (Kd.V_mono (ok' := fun k_ => some k_ ≠ (.slice (some ad371) t355.length co6 : Value).ownBlock ∧ some k_ ≠ (.slice (some ⟨go17, 0, none⟩) x4_3.length co9 : Value).ownBlock ∧ some k_ ≠ (.slice (some ad370) x6_3.length co48 : Value).ownBlock ∧ some k_ ≠ (.slice (some ad369) t366.length co26 : Value).ownBlock ∧ some k_ ≠ (.slice (some ad369) t366.length co26 : Value).ownBlock) ho0 (fun k_ hk_ => ⟨Or.elim hk_ (fun hs_ => ((HL371_0.out).1 k_ hs_.symm).2) (fun hn_ => (Kd.fresh' (Kd.S_lt (Sl_ HO_3.out)) k_ hn_)), Or.elim hk_ (fun hs_ => ((HL371_0.out).1 k_ hs_.symm).1.1) (fun hn_ => (Kd.fresh' (Kd.R_lt (Rl_ HO_4.out)) k_ hn_)), Or.elim hk_ (fun hs_ => ((HL371_0.out).1 k_ hs_.symm).1.2.1) (fun hn_ => (Kd.fresh' (Kd.R_lt (Rl_ HO_6.out)) k_ hn_)), Or.elim hk_ (fun hs_ => ((HL371_0.out).1 k_ hs_.symm).1.2.2.1) (fun hn_ => (Kd.fresh' (Kd.S_lt (Sl_ HO_7.out)) k_ hn_)), Or.elim hk_ (fun hs_ => ((HL371_0.out).1 k_ hs_.symm).1.2.2.2) (fun hn_ => (Kd.fresh' (Kd.S_lt (Sl_ HO_37.out)) k_ hn_))⟩)) (below_size (Bl_ HB))); replace HO_3 := a_ (Kd.S_below (Sl_ HO_3.out) hb); replace HO_4 := a_ (Kd.R_below (Rl_ HO_4.out) hb); replace HO_6 := a_ (Kd.R_below (Rl_ HO_6.out) hb); replace HO_7 := a_ (Kd.S_below (Sl_ HO_7.out) hb); replace HO_37 := a_ (Kd.S_below (Sl_ HO_37.out) hb); replace HL371_0 := a_ (Kd.R_below (Rl_ HL371_0.out) hb); replace HR369_0 := a_ (Kd.C_below (by repeat (first | (with_reducible exact HR369_0.out) | (with_reducible refine Kd.C_alloc ?_ _) | (with_reducible refine Kd.C_drewN ?_ _) | (with_reducible refine Kd.C_drew ?_) | exact HR369_0.out)) hb); replace HR371_0 := a_ (Kd.C_below (by repeat (first | (with_reducible exact HR371_0.out) | (with_reducible refine Kd.C_alloc ?_ _) | (with_reducible refine Kd.C_drewN ?_ _) | (with_reducible refine Kd.C_drew ?_) | exact HR371_0.out)) hb); replace HB := Bs_ HB hb; (try clear hb); (try clear hb2); (try clear hk); (try clear hi); (try clear ho0); obtain ⟨Ao50, co50, eo50⟩ := Kd.V_slice HO374.out; subst eo50) | ((with_reducible refine gate_callee (f := 67) rfl ?_); refine gm_ (some 52) Tryz.func67 #[.slice Ao50 t372.length co50] rfl ?_; (with_reducible refine (spec_alRank.calls k3 _ _ t372 t375 _ ?side1 ?side2 A35.out).mono ?_); (case side1 => repeat (first | exact (Kd.V_reads' HO374.out).2.2 | (with_reducible refine Kd.C_alloc ?_ _) | (with_reducible refine Kd.C_drewN ?_ _) | (with_reducible refine Kd.C_drew ?_))); (case side2 => exact (Kd.V_reads' HO374.out).2.1); rintro e w' ⟨rfl, ⟨nd, rfl⟩⟩; refine ⟨_, rfl, ?_⟩; have p376 : 0 ≤ (t375 : Int) := od_; have q376 : t375 < (x4_3.length : Int) := od_; obtain ⟨ad376, e376, hx376_0⟩ := Kd.at_int (Kd.R_reads' HO_4.out).2.2 t375 p376 q376; obtain rfl : (⟨go17, 0, none⟩ : Addr) = ad376 := (by injection e376); (first | simp only [add_plain] at hx376_0 | simp only [add_at] at hx376_0 | simp only [Addr.add, Nat.zero_add] at hx376_0 | skip); replace p376 := eq_true p376; replace q376 := eq_true q376))
        (try simp only [← hl4_3])
        go_roundg k3
        case measure => have := HK1.out; have := HK2.out; have := HK3.out; omega
        case rel => exact ⟨(x4_3), (x6_3), (wrap64 (x39_3 + 1)), rs_, H', ⟨by have := HK1.out; have := HK2.out; have := HK3.out; omega⟩, ⟨by (try simp only [hl4_1]); (try simp only [hl4_2]); (try simp only [hl4_3]); (with_reducible repeat (first | apply Kd.S_alloc | apply Kd.S_drewN | apply Kd.S_drew)); exact HO_3.out⟩, ⟨by (try simp only [hl4_1]); (try simp only [hl4_2]); (try simp only [hl4_3]); (with_reducible repeat (first | apply Kd.R_alloc | apply Kd.R_drewN | apply Kd.R_drew)); exact HO_4.out⟩, ⟨by (try simp only [hl4_1]); (try simp only [hl4_2]); (try simp only [hl4_3]); (with_reducible repeat (first | apply Kd.R_alloc | apply Kd.R_drewN | apply Kd.R_drew)); exact HO_6.out⟩, ⟨by (try simp only [hl4_1]); (try simp only [hl4_2]); (try simp only [hl4_3]); (with_reducible repeat (first | apply Kd.S_alloc | apply Kd.S_drewN | apply Kd.S_drew)); exact HO_7.out⟩, ⟨by (try simp only [hl4_1]); (try simp only [hl4_2]); (try simp only [hl4_3]); (with_reducible repeat (first | apply Kd.S_alloc | apply Kd.S_drewN | apply Kd.S_drew)); exact HO_37.out⟩, ⟨Bl_ HB⟩⟩
       rw [if_pos c38] at H
       have c38b0 : decide ((rd x4_3 t375) < 0) = true := decide_eq_true c38
       clear c38
       by_cases c39 : (rd x6_3 x8_2) < (x4_3.length : Int)
       rotate_left
       ·rw [if_neg c39] at H
        cases H
       rw [if_pos c39] at H
       have c39b0 : decide ((rd x6_3 x8_2) < (x4_3.length : Int)) = true := decide_eq_true c39
       clear c39
       obtain ⟨y379, hy379⟩ : ∃ y_ : List Int, y_ = (x4_3.set (t375 : Int).toNat (wrap64 ((rd x4_3 (rd x6_3 x8_2)) + 1))) := ⟨_, rfl⟩
       replace H : (if x6_3.length < 17592186044416 then (spec_lvFar.l2 k3 t355 y379 (x6_3 ++ [t375]) t366 x8_2 t366 (t366.length : Int) (wrap64 (x39_3 + 1))) else (none)) = some r := by first | (rw [hy379]; with_reducible exact H) | (have H2_ := (Option.bind_some _ _).symm.trans H; rw [hy379]; with_reducible exact H2_) | (have H2_ := (Option.bind_some _ _).symm.trans H; with_reducible exact H2_) | with_reducible exact H | (rw [hy379]; exact H) | exact H
       have Ny379 := a_ hy379
       clear hy379
       by_cases c41 : x6_3.length < 17592186044416
       rotate_left
       ·rw [if_neg c41] at H
        cases H
       rw [if_pos c41] at H
       have LMc41 := a_ c41
       clear c41
       obtain ⟨y380, hy380⟩ : ∃ y_ : List Int, y_ = (x6_3 ++ [t375]) := ⟨_, rfl⟩
       replace H : (spec_lvFar.l2 k3 t355 y379 y380 t366 x8_2 t366 (t366.length : Int) (wrap64 (x39_3 + 1))) = some r := by first | (rw [hy380]; with_reducible exact H) | (have H2_ := (Option.bind_some _ _).symm.trans H; rw [hy380]; with_reducible exact H2_) | (have H2_ := (Option.bind_some _ _).symm.trans H; with_reducible exact H2_) | with_reducible exact H | (rw [hy380]; exact H) | exact H
       have Ny380 := a_ hy380
       clear hy380
       have H' := a_ H
       clear H
       have p369 : 0 ≤ (x39_3 : Int) := od_
       have q369 : x39_3 < (t366.length : Int) := od_
       obtain ⟨ad369, A369_0, c369_0, e369, hx369_0, hl369_0, hi369_0⟩ := at_L2 (Kd.S_reads' HO_37.out).2.2 x39_3 p369 q369
       cases e369
       obtain ⟨ce369, hce369, hMe369, hcc369⟩ := Kd.S_get HO_37.out [] x39_3 p369 (by first | exact q369 | exact od_ | (have e_ := (Kd.S_reads' HO_37.out).1; omega))
       obtain ⟨ve369_0, rfl, ge369_0⟩ := hMe369
       have hv369_0 := hcc369 0 _ rfl
       rw [Nat.add_zero, show ((Kd.slice 3 (Kd.int .i64))).sz = 1 from rfl, Nat.mul_one] at hv369_0
       replace hv369_0 := Option.some.inj (hv369_0.symm.trans hx369_0)
       rw [hv369_0] at ge369_0
       have HL369_0 := a_ (show Kd.R (Kd.int .i64) 3 _ _ _ _ (rd_L2 t366 x39_3) from ge369_0)
       clear hv369_0 ge369_0
       clear hcc369 hce369
       have HR369_0 := a_ hi369_0
       have HC369_0 := a_ hl369_0
       clear hi369_0 hl369_0
       replace p369 := eq_true p369
       replace q369 := eq_true q369
       obtain ⟨Ao42, co42, eo42⟩ := Kd.R_slice HO_6.out
       subst eo42
       have p370 : 0 ≤ (x8_2 : Int) := od_
       have q370 : x8_2 < (x6_3.length : Int) := od_
       obtain ⟨ad370, e370, hx370_0⟩ := Kd.at_int (Kd.R_reads' HO_6.out).2.2 x8_2 p370 q370
       cases e370
       replace p370 := eq_true p370
       replace q370 := eq_true q370
       have p371 : 0 ≤ ((rd x6_3 x8_2) : Int) := od_
       have q371 : (rd x6_3 x8_2) < (t355.length : Int) := od_
       obtain ⟨ad371, A371_0, c371_0, e371, hx371_0, hl371_0, hi371_0⟩ := at_L2 (Kd.S_reads' HO_3.out).2.2 (rd x6_3 x8_2) p371 q371
       cases e371
       obtain ⟨ce371, hce371, hMe371, hcc371⟩ := Kd.S_get HO_3.out [] (rd x6_3 x8_2) p371 (by first | exact q371 | exact od_ | (have e_ := (Kd.S_reads' HO_3.out).1; omega))
       obtain ⟨ve371_0, rfl, ge371_0⟩ := hMe371
       have hv371_0 := hcc371 0 _ rfl
       rw [Nat.add_zero, show ((Kd.slice 3 (Kd.int .i64))).sz = 1 from rfl, Nat.mul_one] at hv371_0
       replace hv371_0 := Option.some.inj (hv371_0.symm.trans hx371_0)
       rw [hv371_0] at ge371_0
       have HL371_0 := a_ (show Kd.R (Kd.int .i64) 3 _ _ _ _ (rd_L2 t355 (rd x6_3 x8_2)) from ge371_0)
       clear hv371_0 ge371_0
       clear hcc371 hce371
       have HR371_0 := a_ hi371_0
       have HC371_0 := a_ hl371_0
       clear hi371_0 hl371_0
       replace p371 := eq_true p371
       replace q371 := eq_true q371
       go_wp2_with (first | ((with_reducible refine gate_callee (f := 68) rfl ?_); refine gm_ (some 51) Tryz.func68 #[.slice A371_0 (rd_L2 t355 (rd x6_3 x8_2)).length c371_0, .slice A369_0 (rd_L2 t366 x39_3).length c369_0] rfl ?_; (with_reducible refine (spec_lvTop.calls k3 (fun k_ => some k_ = (.slice A371_0 (rd_L2 t355 (rd x6_3 x8_2)).length c371_0 : Value).ownBlock) _ _ (rd_L2 t355 (rd x6_3 x8_2)) _ _ (rd_L2 t366 x39_3) t372 _ ?side1 ?side2 ?side3 A34.out).mono ?_); (case side1 => exact Kd.R_V (Kd.R_tight rfl (HL371_0.out))); (case side2 => repeat (first | exact (by repeat (first | (with_reducible exact HR369_0.out) | (with_reducible refine Kd.C_alloc ?_ _) | (with_reducible refine Kd.C_drewN ?_ _) | (with_reducible refine Kd.C_drew ?_) | exact HR369_0.out)) | (with_reducible refine Kd.C_alloc ?_ _) | (with_reducible refine Kd.C_drewN ?_ _) | (with_reducible refine Kd.C_drew ?_))); (case side3 => exact HC369_0.out); rintro e w43 ⟨v373, rfl, ho0, hb⟩; refine ⟨_, rfl, ?_⟩; replace HL369_0 := a_ (Kd.R_below (Rl_ HL369_0.out) hb); have HO374 := a_ (Kd.V_lower (Kd.V_mono (ok' := fun k_ => some k_ ≠ (.slice (some ad371) t355.length co6 : Value).ownBlock ∧ some k_ ≠ (.slice (some ⟨go17, 0, none⟩) x4_3.length co9 : Value).ownBlock ∧ some k_ ≠ (.slice (some ad370) x6_3.length co42 : Value).ownBlock ∧ some k_ ≠ (.slice (some ad369) t366.length co26 : Value).ownBlock ∧ some k_ ≠ (.slice (some ad369) t366.length co26 : Value).ownBlock) ho0 (fun k_ hk_ => ⟨Or.elim hk_ (fun hs_ => ((HL371_0.out).1 k_ hs_.symm).2) (fun hn_ => (Kd.fresh' (Kd.S_lt (Sl_ HO_3.out)) k_ hn_)), Or.elim hk_ (fun hs_ => ((HL371_0.out).1 k_ hs_.symm).1.1) (fun hn_ => (Kd.fresh' (Kd.R_lt (Rl_ HO_4.out)) k_ hn_)), Or.elim hk_ (fun hs_ => ((HL371_0.out).1 k_ hs_.symm).1.2.1) (fun hn_ => (Kd.fresh' (Kd.R_lt (Rl_ HO_6.out)) k_ hn_)), Or.elim hk_ (fun hs_ => ((HL371_0.out).1 k_ hs_.symm).1.2.2.1) (fun hn_ => (Kd.fresh' (Kd.S_lt (Sl_ HO_7.out)) k_ hn_)), Or.elim hk_ (fun hs_ => ((HL371_0.out).1 k_ hs_.symm).1.2.2.2) (fun hn_ => (Kd.fresh' (Kd.S_lt (Sl_ HO_37.out)) k_ hn_))⟩)) (below_size (Bl_ HB))); replace HO_3 := a_ (Kd.S_below (Sl_ HO_3.out) hb); replace HO_4 := a_ (Kd.R_below (Rl_ HO_4.out) hb); replace HO_6 := a_ (Kd.R_below (Rl_ HO_6.out) hb); replace HO_7 := a_ (Kd.S_below (Sl_ HO_7.out) hb); replace HO_37 := a_ (Kd.S_below (Sl_ HO_37.out) hb); replace HL371_0 := a_ (Kd.R_below (Rl_ HL371_0.out) hb); replace HR369_0 := a_ (Kd.C_below (by repeat (first | (with_reducible exact HR369_0.out) | (with_reducible refine Kd.C_alloc ?_ _) | (with_reducible refine Kd.C_drewN ?_ _) | (with_reducible refine Kd.C_drew ?_) | exact HR369_0.out)) hb); replace HR371_0 := a_ (Kd.C_below (by repeat (first | (with_reducible exact HR371_0.out) | (with_reducible refine Kd.C_alloc ?_ _) | (with_reducible refine Kd.C_drewN ?_ _) | (with_reducible refine Kd.C_drew ?_) | exact HR371_0.out)) hb); replace HB := Bs_ HB hb; (try clear hb); (try clear hb2); (try clear hk); (try clear hi); (try clear ho0); obtain ⟨Ao44, co44, eo44⟩ := Kd.V_slice HO374.out; subst eo44) | ((with_reducible refine gate_callee (f := 67) rfl ?_); refine gm_ (some 52) Tryz.func67 #[.slice Ao44 t372.length co44] rfl ?_; (with_reducible refine (spec_alRank.calls k3 _ _ t372 t375 _ ?side1 ?side2 A35.out).mono ?_); (case side1 => repeat (first | exact (Kd.V_reads' HO374.out).2.2 | (with_reducible refine Kd.C_alloc ?_ _) | (with_reducible refine Kd.C_drewN ?_ _) | (with_reducible refine Kd.C_drew ?_))); (case side2 => exact (Kd.V_reads' HO374.out).2.1); rintro e w' ⟨rfl, ⟨nd, rfl⟩⟩; refine ⟨_, rfl, ?_⟩; (try (rw [drewN_self w43]; generalize hq_ : World.drewN w43 _ = w43; replace HL369_0 : Aside0 (Kd.R (Kd.int .i64) 3 w43 w.heap.size (fun k_ => some k_ ≠ (.slice (some ad371) t355.length co6 : Value).ownBlock ∧ some k_ ≠ (.slice (some ad369) t366.length co26 : Value).ownBlock ∧ some k_ ≠ (.slice (some ⟨go17, 0, none⟩) x4_3.length co9 : Value).ownBlock ∧ some k_ ≠ (.slice (some ad370) x6_3.length co42 : Value).ownBlock) (.slice A369_0 (rd_L2 t366 x39_3).length c369_0) (rd_L2 t366 x39_3)) := ⟨by rw [← hq_]; exact (by (with_reducible repeat (first | apply Kd.R_alloc | apply Kd.R_drewN | apply Kd.R_drew)); exact Kd.R_mono HL369_0.out (fun _ hk => by revert hk; (try simp only [and_imp, true_implies]); intros; (repeat' apply And.intro) <;> first | assumption | trivial))⟩; replace HL371_0 : Aside0 (Kd.R (Kd.int .i64) 3 w43 w.heap.size (fun k_ => some k_ ≠ (.slice (some ad371) t355.length co6 : Value).ownBlock ∧ some k_ ≠ (.slice (some ad369) t366.length co26 : Value).ownBlock ∧ some k_ ≠ (.slice (some ⟨go17, 0, none⟩) x4_3.length co9 : Value).ownBlock ∧ some k_ ≠ (.slice (some ad370) x6_3.length co42 : Value).ownBlock ∧ some k_ ≠ (.slice (some ad369) t366.length co26 : Value).ownBlock) (.slice A371_0 (rd_L2 t355 (rd x6_3 x8_2)).length c371_0) (rd_L2 t355 (rd x6_3 x8_2))) := ⟨by rw [← hq_]; exact (by (with_reducible repeat (first | apply Kd.R_alloc | apply Kd.R_drewN | apply Kd.R_drew)); exact Kd.R_mono HL371_0.out (fun _ hk => by revert hk; (try simp only [and_imp, true_implies]); intros; (repeat' apply And.intro) <;> first | assumption | trivial))⟩; replace HO374 : Aside0 (Kd.V (Kd.int .i64) 3 w43 w.heap.size (fun k_ => some k_ ≠ (.slice (some ad371) t355.length co6 : Value).ownBlock ∧ some k_ ≠ (.slice (some ad369) t366.length co26 : Value).ownBlock ∧ some k_ ≠ (.slice (some ⟨go17, 0, none⟩) x4_3.length co9 : Value).ownBlock ∧ some k_ ≠ (.slice (some ad370) x6_3.length co42 : Value).ownBlock ∧ some k_ ≠ (.slice (some ad369) t366.length co26 : Value).ownBlock) (.slice Ao44 t372.length co44) t372) := ⟨by rw [← hq_]; exact (by (with_reducible repeat (first | apply Kd.V_alloc | apply Kd.V_drewN | apply Kd.V_drew)); exact Kd.V_mono HO374.out (fun _ hk => by revert hk; (try simp only [and_imp, true_implies]); intros; (repeat' apply And.intro) <;> first | assumption | trivial))⟩; replace HO_3 : Aside0 (Kd.S (Kd.slice 3 (Kd.int .i64)) 31 w43 w.heap.size (fun k_ => some k_ ≠ (.slice (some ad369) t366.length co26 : Value).ownBlock ∧ some k_ ≠ (.slice (some ⟨go17, 0, none⟩) x4_3.length co9 : Value).ownBlock ∧ some k_ ≠ (.slice (some ad370) x6_3.length co42 : Value).ownBlock ∧ some k_ ≠ (.slice (some ad369) t366.length co26 : Value).ownBlock) (.slice (some ad371) t355.length co6) t355) := ⟨by rw [← hq_]; exact (by (with_reducible repeat (first | apply Kd.S_alloc | apply Kd.S_drewN | apply Kd.S_drew)); exact Kd.S_mono HO_3.out (fun _ hk => by revert hk; (try simp only [and_imp, true_implies]); intros; (repeat' apply And.intro) <;> first | assumption | trivial))⟩; replace HO_37 : Aside0 (Kd.S (Kd.slice 3 (Kd.int .i64)) 31 w43 w.heap.size (fun k_ => some k_ ≠ (.slice (some ad371) t355.length co6 : Value).ownBlock ∧ some k_ ≠ (.slice (some ⟨go17, 0, none⟩) x4_3.length co9 : Value).ownBlock ∧ some k_ ≠ (.slice (some ad370) x6_3.length co42 : Value).ownBlock) (.slice (some ad369) t366.length co26) t366) := ⟨by rw [← hq_]; exact (Sl_ HO_37.out)⟩; replace HO_4 : Aside0 (Kd.R (Kd.int .i64) 3 w43 w.heap.size (fun k_ => some k_ ≠ (.slice (some ad370) x6_3.length co42 : Value).ownBlock) (.slice (some ⟨go17, 0, none⟩) x4_3.length co9) x4_3) := ⟨by rw [← hq_]; exact (Rl_ HO_4.out)⟩; replace HO_6 : Aside0 (Kd.R (Kd.int .i64) 3 w43 w.heap.size (fun k_ => some k_ ≠ (.slice (some ⟨go17, 0, none⟩) x4_3.length co9 : Value).ownBlock) (.slice (some ad370) x6_3.length co42) x6_3) := ⟨by rw [← hq_]; exact (Rl_ HO_6.out)⟩; replace HO_7 : Aside0 (Kd.S (Kd.slice 3 (Kd.int .i64)) 31 w43 w.heap.size (fun k_ => some k_ ≠ (.slice (some ad371) t355.length co6 : Value).ownBlock ∧ some k_ ≠ (.slice (some ⟨go17, 0, none⟩) x4_3.length co9 : Value).ownBlock ∧ some k_ ≠ (.slice (some ad370) x6_3.length co42 : Value).ownBlock) (.slice (some ad369) t366.length co26) t366) := ⟨by rw [← hq_]; exact (Sl_ HO_7.out)⟩; replace HB : Aside0 (Below w.heap.size w w43) := ⟨by rw [← hq_]; exact (Bl_ HB)⟩; replace HR369_0 : Aside0 (Kd.C (Kd.int .i64) w43 A369_0 (rd_L2 t366 x39_3).length (rd_L2 t366 x39_3)) := ⟨by rw [← hq_]; exact (by repeat (first | (with_reducible exact HR369_0.out) | (with_reducible refine Kd.C_alloc ?_ _) | (with_reducible refine Kd.C_drewN ?_ _) | (with_reducible refine Kd.C_drew ?_) | exact HR369_0.out))⟩; replace HR371_0 : Aside0 (Kd.C (Kd.int .i64) w43 A371_0 (rd_L2 t355 (rd x6_3 x8_2)).length (rd_L2 t355 (rd x6_3 x8_2))) := ⟨by rw [← hq_]; exact (by repeat (first | (with_reducible exact HR371_0.out) | (with_reducible refine Kd.C_alloc ?_ _) | (with_reducible refine Kd.C_drewN ?_ _) | (with_reducible refine Kd.C_drew ?_) | exact HR371_0.out))⟩; clear hq_)); have p376 : 0 ≤ (t375 : Int) := od_; have q376 : t375 < (x4_3.length : Int) := od_; obtain ⟨ad376, e376, hx376_0⟩ := Kd.at_int (Kd.R_reads' HO_4.out).2.2 t375 p376 q376; obtain rfl : (⟨go17, 0, none⟩ : Addr) = ad376 := (by injection e376); (first | simp only [add_plain] at hx376_0 | simp only [add_at] at hx376_0 | simp only [Addr.add, Nat.zero_add] at hx376_0 | skip); replace p376 := eq_true p376; replace q376 := eq_true q376; have p377 : 0 ≤ (x8_2 : Int) := od_; have q377 : x8_2 < (x6_3.length : Int) := od_; obtain ⟨ad377, e377, hx377_0⟩ := Kd.at_int (Kd.R_reads' HO_6.out).2.2 x8_2 p377 q377; obtain rfl : ad370 = ad377 := (by injection e377); replace p377 := eq_true p377; replace q377 := eq_true q377; have p378 : 0 ≤ ((rd x6_3 x8_2) : Int) := od_; have q378 : (rd x6_3 x8_2) < (x4_3.length : Int) := od_; obtain ⟨ad378, e378, hx378_0⟩ := Kd.at_int (Kd.R_reads' HO_4.out).2.2 (rd x6_3 x8_2) p378 q378; obtain rfl : (⟨go17, 0, none⟩ : Addr) = ad378 := (by injection e378); (first | simp only [add_plain] at hx378_0 | simp only [add_at] at hx378_0 | simp only [Addr.add, Nat.zero_add] at hx378_0 | skip); replace p378 := eq_true p378; replace q378 := eq_true q378; have p40 : 0 ≤ (t375 : Int) := od_; have q40 : (t375 : Int) < ((x4_3.length : Int) : Int) := od_; obtain ⟨hx40_0, hf40_0⟩ := Kd.R_celln 0 HO_4.out (t375 : Int) p40 q40; replace p40 := eq_true p40; replace q40 := eq_true q40; obtain ⟨hy45_, hz45_⟩ := Kd.R_celln 0 HO_4.out (t375 : Int) (od_) (od_); have HP45 := Kd.R_putg HO_4.out (t375 : Int) (wrap64 ((rd x4_3 (rd x6_3 x8_2)) + 1))) | ((with_reducible refine gate_store (t := 3) (p := 68) rfl ?_); refine store_event (t := 3) (p := 68) (v := ?vo_w46) (w1 := (w43.setCell ⟨go17, (t375 : Int).toNat, none⟩ (.int .i64 (wrap64 ((rd x4_3 (rd x6_3 x8_2)) + 1))))) ?hg ?ho ?hn ?hr ?_; (case ho => rfl); (case hg => rfl); (case hn => rfl); (case hr => first | (go_simp; done) | (go_simp; rfl)); intro w46 hw; have hg : w43.grownBy w46 (some go17) := (by rw [hw]; exact HP45.2); have hp_ : Kd.R (Kd.int .i64) 3 w46 w.heap.size (fun k_ => some k_ ≠ (.slice (some ad370) x6_3.length co42 : Value).ownBlock) (.slice (some ⟨go17, 0, none⟩) x4_3.length co9) y379 := (by rw [hw, Ny379.out]; exact HP45.1); clear HP45; replace HO_3 := a_ (Kd.S_after (v := (.slice (some ⟨go17, 0, none⟩) x4_3.length co9)) (v1 := (.slice (some ⟨go17, 0, none⟩) x4_3.length co9)) (ok := (fun k_ => some k_ ≠ (.slice (some ad370) x6_3.length co42 : Value).ownBlock ∧ some k_ ≠ (.slice (some ad369) t366.length co26 : Value).ownBlock ∧ some k_ ≠ (.slice (some ad369) t366.length co26 : Value).ownBlock)) (by (with_reducible repeat (first | apply Kd.S_alloc | apply Kd.S_drewN | apply Kd.S_drew)); exact Kd.S_mono HO_3.out (fun _ hk => by revert hk; (try simp only [and_imp, true_implies]); intros; (repeat' apply And.intro) <;> first | assumption | trivial)) hg (.inl rfl)); replace HO_4 := a_ (hp_); replace HO_6 := a_ (Kd.R_after (v := (.slice (some ⟨go17, 0, none⟩) x4_3.length co9)) (v1 := (.slice (some ⟨go17, 0, none⟩) x4_3.length co9)) (ok := (fun _ => True)) (by (with_reducible repeat (first | apply Kd.R_alloc | apply Kd.R_drewN | apply Kd.R_drew)); exact Kd.R_mono HO_6.out (fun _ hk => by revert hk; (try simp only [and_imp, true_implies]); intros; (repeat' apply And.intro) <;> first | assumption | trivial)) hg (.inl rfl)); replace HO_7 := a_ (Kd.S_after (v := (.slice (some ⟨go17, 0, none⟩) x4_3.length co9)) (v1 := (.slice (some ⟨go17, 0, none⟩) x4_3.length co9)) (ok := (fun k_ => some k_ ≠ (.slice (some ad371) t355.length co6 : Value).ownBlock ∧ some k_ ≠ (.slice (some ad370) x6_3.length co42 : Value).ownBlock)) (by (with_reducible repeat (first | apply Kd.S_alloc | apply Kd.S_drewN | apply Kd.S_drew)); exact Kd.S_mono HO_7.out (fun _ hk => by revert hk; (try simp only [and_imp, true_implies]); intros; (repeat' apply And.intro) <;> first | assumption | trivial)) hg (.inl rfl)); replace HO_37 := a_ (Kd.S_after (v := (.slice (some ⟨go17, 0, none⟩) x4_3.length co9)) (v1 := (.slice (some ⟨go17, 0, none⟩) x4_3.length co9)) (ok := (fun k_ => some k_ ≠ (.slice (some ad371) t355.length co6 : Value).ownBlock ∧ some k_ ≠ (.slice (some ad370) x6_3.length co42 : Value).ownBlock)) (by (with_reducible repeat (first | apply Kd.S_alloc | apply Kd.S_drewN | apply Kd.S_drew)); exact Kd.S_mono HO_37.out (fun _ hk => by revert hk; (try simp only [and_imp, true_implies]); intros; (repeat' apply And.intro) <;> first | assumption | trivial)) hg (.inl rfl)); replace HL369_0 := a_ (Kd.R_after (v := (.slice (some ⟨go17, 0, none⟩) x4_3.length co9)) (v1 := (.slice (some ⟨go17, 0, none⟩) x4_3.length co9)) (ok := (fun k_ => some k_ ≠ (.slice (some ad371) t355.length co6 : Value).ownBlock ∧ some k_ ≠ (.slice (some ad370) x6_3.length co42 : Value).ownBlock ∧ some k_ ≠ (.slice (some ad369) t366.length co26 : Value).ownBlock)) (by (with_reducible repeat (first | apply Kd.R_alloc | apply Kd.R_drewN | apply Kd.R_drew)); exact Kd.R_mono HL369_0.out (fun _ hk => by revert hk; (try simp only [and_imp, true_implies]); intros; (repeat' apply And.intro) <;> first | assumption | trivial)) hg (.inl rfl)); replace HL371_0 := a_ (Kd.R_after (v := (.slice (some ⟨go17, 0, none⟩) x4_3.length co9)) (v1 := (.slice (some ⟨go17, 0, none⟩) x4_3.length co9)) (ok := (fun k_ => some k_ ≠ (.slice (some ad371) t355.length co6 : Value).ownBlock ∧ some k_ ≠ (.slice (some ad370) x6_3.length co42 : Value).ownBlock ∧ some k_ ≠ (.slice (some ad369) t366.length co26 : Value).ownBlock ∧ some k_ ≠ (.slice (some ad369) t366.length co26 : Value).ownBlock)) (by (with_reducible repeat (first | apply Kd.R_alloc | apply Kd.R_drewN | apply Kd.R_drew)); exact Kd.R_mono HL371_0.out (fun _ hk => by revert hk; (try simp only [and_imp, true_implies]); intros; (repeat' apply And.intro) <;> first | assumption | trivial)) hg (.inl rfl)); replace HO374 := a_ (Kd.V_afterv (v := (.slice (some ⟨go17, 0, none⟩) x4_3.length co9)) (v1 := (.slice (some ⟨go17, 0, none⟩) x4_3.length co9)) (ok := (fun k_ => some k_ ≠ (.slice (some ad371) t355.length co6 : Value).ownBlock ∧ some k_ ≠ (.slice (some ad370) x6_3.length co42 : Value).ownBlock ∧ some k_ ≠ (.slice (some ad369) t366.length co26 : Value).ownBlock ∧ some k_ ≠ (.slice (some ad369) t366.length co26 : Value).ownBlock)) (by (with_reducible repeat (first | apply Kd.V_alloc | apply Kd.V_drewN | apply Kd.V_drew)); exact Kd.V_mono HO374.out (fun _ hk => by revert hk; (try simp only [and_imp, true_implies]); intros; (repeat' apply And.intro) <;> first | assumption | trivial)) hg (.inl rfl)); replace HB := a_ ((by rw [hw]; exact below_set (HB.out) GB17.out : Below w.heap.size w w46)); clear hg hw hp_) | ((with_reducible refine gate_builtin (b := .append) (xs := #[.tmp 69, .tmp 71]) rfl ?_); at_builtin; refine Kd.R_append (Kd.int .i64) (w0 := w) w.heap.size rfl (.tmp 69) (.tmp 71) 31 3 (.int .i64 0) 8 rfl Tryz.underlying31 info3 rfl (by decide) (by omega) (.slice (some ad370) x6_3.length co42) x6_3 t375 [.int .i64 t375] (fun k_ => some k_ ≠ (.slice (some ⟨go17, 0, none⟩) x4_3.length co9 : Value).ownBlock) (fun _ => False) rfl rfl ?aP (fun _ hk => hk.elim) ?aF ?aO ?aB ?aS ?aL ?_; (case aP => exact rfl); (case aB => exact (Bl_ HB)); (case aF => exact (fun k_ hk => Kd.fresh' (Kd.R_lt (Rl_ HO_4.out)) k_ hk)); (case aO => exact (by (with_reducible repeat (first | apply Kd.R_alloc | apply Kd.R_drewN | apply Kd.R_drew)); exact Kd.R_mono HO_6.out (fun _ hk => by revert hk; (try simp only [and_imp, true_implies]); intros; (repeat' apply And.intro) <;> first | assumption | trivial))); (case aS => exact (below_size (Bl_ HB))); (case aL => have := LMc41.out; omega); intro v381 w47 ho hb hg hat; rw [← Ny380.out] at ho; replace HO_3 := a_ (Kd.S_after (ok := (fun k_ => some k_ ≠ (.slice (some ⟨go17, 0, none⟩) x4_3.length co9 : Value).ownBlock ∧ some k_ ≠ (.slice (some ad369) t366.length co26 : Value).ownBlock ∧ some k_ ≠ (.slice (some ad369) t366.length co26 : Value).ownBlock)) (by (with_reducible repeat (first | apply Kd.S_alloc | apply Kd.S_drewN | apply Kd.S_drew)); exact Kd.S_mono HO_3.out (fun _ hk => by revert hk; (try simp only [and_imp, true_implies]); intros; (repeat' apply And.intro) <;> first | assumption | trivial)) hg hat); replace HO_4 := a_ (Kd.R_after (ok := (fun _ => True)) (by (with_reducible repeat (first | apply Kd.R_alloc | apply Kd.R_drewN | apply Kd.R_drew)); exact Kd.R_mono HO_4.out (fun _ hk => by revert hk; (try simp only [and_imp, true_implies]); intros; (repeat' apply And.intro) <;> first | assumption | trivial)) hg hat); replace HO_7 := a_ (Kd.S_after (ok := (fun k_ => some k_ ≠ (.slice (some ad371) t355.length co6 : Value).ownBlock ∧ some k_ ≠ (.slice (some ⟨go17, 0, none⟩) x4_3.length co9 : Value).ownBlock)) (by (with_reducible repeat (first | apply Kd.S_alloc | apply Kd.S_drewN | apply Kd.S_drew)); exact Kd.S_mono HO_7.out (fun _ hk => by revert hk; (try simp only [and_imp, true_implies]); intros; (repeat' apply And.intro) <;> first | assumption | trivial)) hg hat); replace HO_37 := a_ (Kd.S_after (ok := (fun k_ => some k_ ≠ (.slice (some ad371) t355.length co6 : Value).ownBlock ∧ some k_ ≠ (.slice (some ⟨go17, 0, none⟩) x4_3.length co9 : Value).ownBlock)) (by (with_reducible repeat (first | apply Kd.S_alloc | apply Kd.S_drewN | apply Kd.S_drew)); exact Kd.S_mono HO_37.out (fun _ hk => by revert hk; (try simp only [and_imp, true_implies]); intros; (repeat' apply And.intro) <;> first | assumption | trivial)) hg hat); replace HL369_0 := a_ (Kd.R_after (ok := (fun k_ => some k_ ≠ (.slice (some ad371) t355.length co6 : Value).ownBlock ∧ some k_ ≠ (.slice (some ⟨go17, 0, none⟩) x4_3.length co9 : Value).ownBlock ∧ some k_ ≠ (.slice (some ad369) t366.length co26 : Value).ownBlock)) (by (with_reducible repeat (first | apply Kd.R_alloc | apply Kd.R_drewN | apply Kd.R_drew)); exact Kd.R_mono HL369_0.out (fun _ hk => by revert hk; (try simp only [and_imp, true_implies]); intros; (repeat' apply And.intro) <;> first | assumption | trivial)) hg hat); replace HL371_0 := a_ (Kd.R_after (ok := (fun k_ => some k_ ≠ (.slice (some ad371) t355.length co6 : Value).ownBlock ∧ some k_ ≠ (.slice (some ⟨go17, 0, none⟩) x4_3.length co9 : Value).ownBlock ∧ some k_ ≠ (.slice (some ad369) t366.length co26 : Value).ownBlock ∧ some k_ ≠ (.slice (some ad369) t366.length co26 : Value).ownBlock)) (by (with_reducible repeat (first | apply Kd.R_alloc | apply Kd.R_drewN | apply Kd.R_drew)); exact Kd.R_mono HL371_0.out (fun _ hk => by revert hk; (try simp only [and_imp, true_implies]); intros; (repeat' apply And.intro) <;> first | assumption | trivial)) hg hat); replace HO374 := a_ (Kd.V_afterv (ok := (fun k_ => some k_ ≠ (.slice (some ad371) t355.length co6 : Value).ownBlock ∧ some k_ ≠ (.slice (some ⟨go17, 0, none⟩) x4_3.length co9 : Value).ownBlock ∧ some k_ ≠ (.slice (some ad369) t366.length co26 : Value).ownBlock ∧ some k_ ≠ (.slice (some ad369) t366.length co26 : Value).ownBlock)) (by (with_reducible repeat (first | apply Kd.V_alloc | apply Kd.V_drewN | apply Kd.V_drew)); exact Kd.V_mono HO374.out (fun _ hk => by revert hk; (try simp only [and_imp, true_implies]); intros; (repeat' apply And.intro) <;> first | assumption | trivial)) hg hat); replace HB := a_ (hb); have HO382 := a_ (ho); clear HO_6; clear ho hb hg hat))
       (try simp only [← hl4_3])
       go_roundg k3
       case measure => have := HK1.out; have := HK2.out; have := HK3.out; omega
       case rel => exact ⟨(y379), (y380), (wrap64 (x39_3 + 1)), rs_, H', ⟨by have := HK1.out; have := HK2.out; have := HK3.out; omega⟩, ⟨by (try simp only [hl4_1]); (try simp only [hl4_2]); (try simp only [hl4_3]); (with_reducible repeat (first | apply Kd.S_alloc | apply Kd.S_drewN | apply Kd.S_drew)); exact Kd.S_mono HO_3.out (fun _ hk => by revert hk; (try simp only [and_imp, true_implies]); intros; (repeat' apply And.intro) <;> first | assumption | trivial)⟩, ⟨by (try simp only [hl4_1]); (try simp only [hl4_2]); (try simp only [hl4_3]); (with_reducible repeat (first | apply Kd.R_alloc | apply Kd.R_drewN | apply Kd.R_drew)); exact Kd.R_mono HO_4.out (fun _ hk => by revert hk; (try simp only [and_imp, true_implies]); intros; (repeat' apply And.intro) <;> first | assumption | trivial)⟩, ⟨by (try simp only [hl4_1]); (try simp only [hl4_2]); (try simp only [hl4_3]); (with_reducible repeat (first | apply Kd.R_alloc | apply Kd.R_drewN | apply Kd.R_drew)); exact HO382.out⟩, ⟨by (try simp only [hl4_1]); (try simp only [hl4_2]); (try simp only [hl4_3]); (with_reducible repeat (first | apply Kd.S_alloc | apply Kd.S_drewN | apply Kd.S_drew)); exact Kd.S_mono HO_7.out (fun _ hk => by revert hk; (try simp only [and_imp, true_implies]); intros; (repeat' apply And.intro) <;> first | assumption | trivial)⟩, ⟨by (try simp only [hl4_1]); (try simp only [hl4_2]); (try simp only [hl4_3]); (with_reducible repeat (first | apply Kd.S_alloc | apply Kd.S_drewN | apply Kd.S_drew)); exact Kd.S_mono HO_37.out (fun _ hk => by revert hk; (try simp only [and_imp, true_implies]); intros; (repeat' apply And.intro) <;> first | assumption | trivial)⟩, ⟨Bl_ HB⟩⟩

end Go.Proofs.YtpgbfkgmmkchnaaGreat.B
