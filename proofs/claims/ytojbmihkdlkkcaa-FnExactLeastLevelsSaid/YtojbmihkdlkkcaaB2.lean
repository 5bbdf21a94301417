/- The walks of functions of the given program and of its reference: each call of the machine returns what the plain Lean function of the same name says. Conditions: those in each statement. (Written by this session's program over the kit's print.) -/
import Derived.Test.YtojbmihkdlkkcaaB0
import Derived.Test.YtojbmihkdlkkcaaB1
namespace Go.Proofs.Ytojbmihkdlkkcaa.B
open Go.RowKit Go.Proofs.YtojbmihkdlkkcaaW.PrintWords Go.Proofs.YtojbmihkdlkkcaaW.PrintLast Go.Proofs.YtojbmihkdlkkcaaW.PrintMore
attribute [local go_sem] max2_int min2_int max_two min_two max_three min_three max_four min_four   -- for this text's walks alone
set_option linter.unusedVariables false
set_option linter.unusedSimpArgs false

/-! ### impl_laid: function 30 -/
def impl_laid.l0 : Nat → List Int → List Int → Int → Int → Option (List Int)
  | 0, _, _, _, _ => none
  | k + 1, x0, x7, x8, x9 => if x9 < x8 then (if 0 ≤ x9 then (if x9 < (x7.length : Int) then ((impl_exchanged.f x0 (rd x7 x9)).bind fun t206 => (impl_laid.l0 k t206 x7 x8 (wrap64 (x9 + 1)))) else (none)) else (none)) else (some x0)
def impl_laid.f (k : Nat) (l0 : List Int) (l1 : List Int) : Option (List Int) := impl_laid.l0 k l0 l1 (l1.length : Int) 0
theorem impl_laid.mono_l : ∀ k, (∀ y0 y1 y2 y3, LeO (impl_laid.l0 k y0 y1 y2 y3) (impl_laid.l0 (k + 1) y0 y1 y2 y3))
  | 0 => fun _ _ _ _ r h => by simp [impl_laid.l0] at h
  | k + 1 => by
    have ih0 := impl_laid.mono_l k
    · intro y0 y1 y2 y3
      unfold impl_laid.l0
      repeat' first
      | (with_reducible exact ih0 _ _ _ _)
      | (with_reducible exact LeO.refl _)
      | (with_reducible exact LeO.none _)
      | (with_reducible refine LeO.ite ?_ ?_)
      | (with_reducible refine LeO.bind ?_ (fun _ => ?_))
      | exact ih0 _ _ _ _
      | exact LeO.none _
      | refine LeO.ite ?_ ?_
      | refine LeO.bind ?_ (fun _ => ?_)
theorem impl_laid.mono : ∀ a0 a1 k, LeO (impl_laid.f k a0 a1) (impl_laid.f (k + 1) a0 a1) := by
  intro a0 a1 k
  have ih0 := impl_laid.mono_l k
  unfold impl_laid.f
  repeat' first
      | (with_reducible exact ih0 _ _ _ _)
      | (with_reducible exact LeO.refl _)
      | (with_reducible exact LeO.none _)
      | (with_reducible refine LeO.ite ?_ ?_)
      | (with_reducible refine LeO.bind ?_ (fun _ => ?_))
      | exact ih0 _ _ _ _
      | exact LeO.none _
      | refine LeO.ite ?_ ?_
      | refine LeO.bind ?_ (fun _ => ?_)
set_option maxHeartbeats 8000000 in
set_option maxRecDepth 100000 in
theorem impl_laid.calls (k : Nat) (P0_ : Nat → Prop) (A0 : Option Addr) (c0 : Nat) (l0 : List Int) (A1 : Option Addr) (c1 : Nat) (l1 : List Int) (r : List Int) (w : World) (hs0 : Kd.V (Kd.int .i64) 3 w w.heap.size (fun k_ => P0_ k_) (.slice A0 l0.length c0) l0) (hr1 : Kd.C (Kd.int .i64) w A1 l1.length l1) (hc1 : l1.length ≤ c1) (h : impl_laid.f k l0 l1 = some r) :
    Calls Try.prog 30 #[.slice A0 l0.length c0, .slice A1 l1.length c1] w fun e w' => ∃ v0_ : Value, e = .returned (v0_) ∧ Kd.V (Kd.int .i64) 3 w' w.heap.size (fun k_ => (P0_ k_ ∨ w.heap.size ≤ k_)) v0_ r ∧ Below w.heap.size w w' := by
  have HO0 := Aside0.mk (show Kd.V (Kd.int .i64) 3 w w.heap.size (fun k_ => (P0_ k_ ∨ w.heap.size ≤ k_)) (.slice A0 l0.length c0) l0 from Kd.V_mono hs0 (fun k_ hk => .inl hk))
  have HR1 := Aside0.mk hr1
  have HC1 := Aside0.mk hc1
  clear hr1 hc1
  have HB := Aside0.mk (Below.refl w.heap.size w)
  have H : (impl_laid.l0 k l0 l1 (l1.length : Int) 0) = some r := h
  clear h
  have H' := Aside0.mk H
  clear H
  go_enter Try.func30, Try.ntmps30
  go_wp2
  go_loopg [0, 9] k (fun kq v0 v9 w' => ∃ (x0_1 : List Int) (x9_1 : Int), v9 = .int .i64 x9_1 ∧ Aside0 (impl_laid.l0 kq x0_1 l1 (l1.length : Int) x9_1 = some r) ∧ Aside0 (kq ≤ k) ∧ Aside0 (Kd.V (Kd.int .i64) 3 w' w.heap.size (fun k_ => (P0_ k_ ∨ w.heap.size ≤ k_)) v0 x0_1) ∧ Aside0 (Below w.heap.size w w'))
  case atStart => exact ⟨(l0), (0), (by first | rfl | (simp; done) | (simp [*]; done)), H', ⟨Nat.le_refl _⟩, ⟨by (with_reducible repeat (first | apply Kd.V_alloc | apply Kd.V_drewN | apply Kd.V_drew)); exact HO0.out⟩, ⟨by repeat (first | (with_reducible first | exact HB.out | apply below_alloc | apply pw_below_drewN | apply below_drew1) | exact HB.out)⟩⟩
  case round =>
    clear H'
    try clear c1
    try clear p2
    obtain ⟨x0_1, x9_1, rfl, HA, HK1, HO_0, HB⟩ := hrel
    cases gk with
    | zero => exact absurd HA.out (by simp [impl_laid.l0])
    | succ k1 =>
      have H := HA.out
      clear HA
      simp only [impl_laid.l0] at H
      by_cases c3 : x9_1 < (l1.length : Int)
      · rw [if_pos c3] at H
        have c3b0 : decide (x9_1 < (l1.length : Int)) = true := decide_eq_true c3
        clear c3
        by_cases c4 : 0 ≤ x9_1
        · rw [if_pos c4] at H
          have c4b0 : decide (0 ≤ x9_1) = true := decide_eq_true c4
          clear c4
          by_cases c5 : x9_1 < (l1.length : Int)
          · rw [if_pos c5] at H
            have c5b0 : decide (x9_1 < (l1.length : Int)) = true := decide_eq_true c5
            clear c5
            replace H := Option.bind_eq_some_iff.mp H
            obtain ⟨t206, A60, H⟩ := H
            replace H : (impl_laid.l0 k1 t206 l1 (l1.length : Int) (wrap64 (x9_1 + 1))) = some r := H
            have A6 := Aside0.mk A60
            clear A60
            have H' := Aside0.mk H
            clear H
            have p205 : 0 ≤ (x9_1 : Int) := of_decide_eq_true (by first | (with_reducible assumption) | assumption)
            have q205 : x9_1 < (l1.length : Int) := of_decide_eq_true (by first | (with_reducible assumption) | assumption)
            obtain ⟨ad205, e205, hx205_0⟩ := Kd.at_int HR1.out x9_1 p205 q205
            cases e205
            replace hx205_0 := (HB.out.cell (World.block_lt_of_cell? w _ hx205_0)).trans hx205_0
            replace p205 := eq_true p205
            replace q205 := eq_true q205
            obtain ⟨Ao7, co7, eo7⟩ := Kd.V_slice HO_0.out
            subst eo7
            go_wp2_with (first | ((with_reducible refine gate_callee (f := 37) rfl ?_); refine goesL_ (some 15) rfl rfl Try.func37 (by kernel_rfl) rfl #[.slice Ao7 x0_1.length co7, .int .i64 (rd l1 x9_1)] rfl (by (try simp only [List.map_toArray, List.map_cons, List.map_nil]); first | done | rfl | (simp only [List.length_drop, List.length_take]; rfl)) ?_; (with_reducible refine (impl_exchanged.calls _ _ x0_1 (rd l1 x9_1) t206 _ ?side1 ?side2 A6.out).mono ?_); (case side1 => repeat (first | exact (Kd.V_reads' HO_0.out).2.2 | (with_reducible refine Kd.C_alloc ?_ _) | (with_reducible refine Kd.C_drewN ?_ _) | (with_reducible refine Kd.C_drew ?_))); (case side2 => exact (Kd.V_reads' HO_0.out).2.1); rintro e w8 ⟨v207, rfl, ho0, hb⟩; refine ⟨_, rfl, ?_⟩; have n0_ := Aside0.mk (Kd.V_elder' (by (with_reducible repeat (first | apply Kd.V_alloc | apply Kd.V_drewN | apply Kd.V_drew)); exact HO_0.out) (Kd.R_base ho0) hb); have n1_ := Aside0.mk (Kd.R_lower (Kd.R_newM (M := fun k_ => (w.heap.size ≤ k_)) ho0 (below_size (by repeat (first | (with_reducible first | exact HB.out | apply below_alloc | apply pw_below_drewN | apply below_drew1) | exact HB.out))) (fun k_ h_ => h_)) (below_size (by repeat (first | (with_reducible first | exact HB.out | apply below_alloc | apply pw_below_drewN | apply below_drew1) | exact HB.out)))); have n2_ := Aside0.mk (below_step (by repeat (first | (with_reducible first | exact HB.out | apply below_alloc | apply pw_below_drewN | apply below_drew1) | exact HB.out)) hb); clear HO_0; clear HB; have HO_0 := n0_; have HO208 := n1_; have HB := n2_; clear n0_ n1_ n2_; (try clear hb); (try clear hb2); (try clear hk); (try clear hi); (try clear ho0)))
            go_roundg k1
            case measure => have := HK1.out; omega
            case rel => exact ⟨(t206), (wrap64 (x9_1 + 1)), (by first | rfl | (simp; done) | (simp [*]; done)), H', ⟨by have := HK1.out; omega⟩, ⟨Kd.V_mono (Kd.R_V (by (with_reducible repeat (first | apply Kd.R_alloc | apply Kd.R_drewN | apply Kd.R_drew)); exact Kd.R_mono HO208.out (fun _ hk => hk.1))) (fun k_ hk => by first | exact ⟨(.inr (hk.1)), hk.2⟩ | exact (.inr (hk)))⟩, ⟨by repeat (first | (with_reducible first | exact HB.out | apply below_alloc | apply pw_below_drewN | apply below_drew1) | exact HB.out)⟩⟩
          · rw [if_neg c5] at H
            exact absurd H (by simp)
        · rw [if_neg c4] at H
          exact absurd H (by simp)
      · rw [if_neg c3] at H
        have c3b0 : decide (x9_1 < (l1.length : Int)) = false := decide_eq_false c3
        clear c3
        obtain rfl := Option.some.inj H
        go_wp2
        go_ret
        exact ⟨_, by first | rfl | (simp [errW_none, errW_some] <;> rfl) | (simp [*, errW_none, errW_some] <;> rfl), by (with_reducible repeat (first | apply Kd.V_alloc | apply Kd.V_drewN | apply Kd.V_drew)); exact HO_0.out, by repeat (first | (with_reducible first | exact HB.out | apply below_alloc | apply pw_below_drewN | apply below_drew1) | exact HB.out)⟩

/-! ### impl_identity: function 32 -/
def impl_identity.l0 : Nat → List Int → Int → Int → Option (List Int)
  | 0, _, _, _ => none
  | k + 1, x3, x6, x7 => if x7 < x6 then (if x3.length < 17592186044416 then (impl_identity.l0 k (x3 ++ [x7]) x6 (wrap64 (x7 + 1))) else (none)) else (some x3)
def impl_identity.f (k : Nat) (a0 : Int) : Option (List Int) := impl_identity.l0 k (([] : List Int)) a0 0
theorem impl_identity.mono_l : ∀ k, (∀ y0 y1 y2, LeO (impl_identity.l0 k y0 y1 y2) (impl_identity.l0 (k + 1) y0 y1 y2))
  | 0 => fun _ _ _ r h => by simp [impl_identity.l0] at h
  | k + 1 => by
    have ih0 := impl_identity.mono_l k
    · intro y0 y1 y2
      unfold impl_identity.l0
      repeat' first
      | (with_reducible exact ih0 _ _ _)
      | (with_reducible exact LeO.refl _)
      | (with_reducible exact LeO.none _)
      | (with_reducible refine LeO.ite ?_ ?_)
      | (with_reducible refine LeO.bind ?_ (fun _ => ?_))
      | exact ih0 _ _ _
      | exact LeO.none _
      | refine LeO.ite ?_ ?_
      | refine LeO.bind ?_ (fun _ => ?_)
theorem impl_identity.mono : ∀ a0 k, LeO (impl_identity.f k a0) (impl_identity.f (k + 1) a0) := by
  intro a0 k
  have ih0 := impl_identity.mono_l k
  unfold impl_identity.f
  repeat' first
      | (with_reducible exact ih0 _ _ _)
      | (with_reducible exact LeO.refl _)
      | (with_reducible exact LeO.none _)
      | (with_reducible refine LeO.ite ?_ ?_)
      | (with_reducible refine LeO.bind ?_ (fun _ => ?_))
      | exact ih0 _ _ _
      | exact LeO.none _
      | refine LeO.ite ?_ ?_
      | refine LeO.bind ?_ (fun _ => ?_)
set_option maxHeartbeats 8000000 in
set_option maxRecDepth 100000 in
theorem impl_identity.calls (k : Nat) (a0 : Int) (r : List Int) (w : World) (h : impl_identity.f k a0 = some r) :
    Calls Try.prog 32 #[.int .i64 a0] w fun e w' => ∃ v0_ : Value, e = .returned (v0_) ∧ Kd.R (Kd.int .i64) 3 w' w.heap.size (fun _ => True) v0_ r ∧ Below w.heap.size w w' := by
  have HB := Aside0.mk (Below.refl w.heap.size w)
  have H : (impl_identity.l0 k (([] : List Int)) a0 0) = some r := h
  clear h
  obtain ⟨y209, hy209⟩ : ∃ y_ : List Int, y_ = (([] : List Int)) := ⟨_, rfl⟩
  replace H : (impl_identity.l0 k y209 a0 0) = some r := by first | (rw [hy209]; with_reducible exact H) | (have H2_ := (Option.bind_some _ _).symm.trans H; rw [hy209]; with_reducible exact H2_) | (have H2_ := (Option.bind_some _ _).symm.trans H; with_reducible exact H2_) | with_reducible exact H | (rw [hy209]; exact H) | exact H
  have Ny209 := Aside0.mk hy209
  clear hy209
  have H' := Aside0.mk H
  clear H
  go_enter Try.func32, Try.ntmps32
  go_wp2_with (first | ((with_reducible refine gate_dst (N := 5) rfl ?_); refine Kd.R_lit (Kd.int .i64) _ 3 ?hg (N := 5) ?hd (xs := ([] : List Int)) (inner := []) (ok := fun _ => True) (okp := fun _ => True) ?hr ?hp (fun _ hk => hk) trivial (Below.refl _ _) (Nat.le_refl _) (by simp) ?_; (case hd => rfl); (case hg => rfl); (case hr => first | (go_simp; done) | (go_simp; rfl)); (case hp => exact (Reps.none _ _)); intro v210 w2 ho3 hb hg_ hnew_; clear hg_ hnew_; (first | rw [← Ny209.out] at ho3 | (simp only [Int.reduceToNat] at ho3; rw [← Ny209.out] at ho3)); have n0_ := Aside0.mk (Kd.R_lower ho3 (below_size (by repeat (first | (with_reducible first | exact HB.out | apply below_alloc | apply pw_below_drewN | apply below_drew1) | exact HB.out)))); have n1_ := Aside0.mk (below_step (by repeat (first | (with_reducible first | exact HB.out | apply below_alloc | apply pw_below_drewN | apply below_drew1) | exact HB.out)) hb); clear HB; have HO211 := n0_; have HB := n1_; clear n0_ n1_; clear hb ho3))
  go_loopg [3, 7] k (fun kq v3 v7 w' => ∃ (x3_1 : List Int) (x7_1 : Int), v7 = .int .i64 x7_1 ∧ Aside0 (impl_identity.l0 kq x3_1 a0 x7_1 = some r) ∧ Aside0 (kq ≤ k) ∧ Aside0 (Kd.R (Kd.int .i64) 3 w' w.heap.size (fun _ => True) v3 x3_1) ∧ Aside0 (Below w.heap.size w w'))
  case atStart => exact ⟨(y209), (0), (by first | rfl | (simp; done) | (simp [*]; done)), H', ⟨Nat.le_refl _⟩, ⟨by (with_reducible repeat (first | apply Kd.R_alloc | apply Kd.R_drewN | apply Kd.R_drew)); exact HO211.out⟩, ⟨by repeat (first | (with_reducible first | exact HB.out | apply below_alloc | apply pw_below_drewN | apply below_drew1) | exact HB.out)⟩⟩
  case round =>
    clear H'
    try clear p2
    try clear c3
    obtain ⟨x3_1, x7_1, rfl, HA, HK1, HO_3, HB⟩ := hrel
    cases gk with
    | zero => exact absurd HA.out (by simp [impl_identity.l0])
    | succ k1 =>
      have H := HA.out
      clear HA
      simp only [impl_identity.l0] at H
      by_cases c4 : x7_1 < a0
      · rw [if_pos c4] at H
        have c4b0 : decide (x7_1 < a0) = true := decide_eq_true c4
        clear c4
        by_cases c5 : x3_1.length < 17592186044416
        · rw [if_pos c5] at H
          have LMc5 := Aside0.mk c5
          clear c5
          obtain ⟨y212, hy212⟩ : ∃ y_ : List Int, y_ = (x3_1 ++ [x7_1]) := ⟨_, rfl⟩
          replace H : (impl_identity.l0 k1 y212 a0 (wrap64 (x7_1 + 1))) = some r := by first | (rw [hy212]; with_reducible exact H) | (have H2_ := (Option.bind_some _ _).symm.trans H; rw [hy212]; with_reducible exact H2_) | (have H2_ := (Option.bind_some _ _).symm.trans H; with_reducible exact H2_) | with_reducible exact H | (rw [hy212]; exact H) | exact H
          have Ny212 := Aside0.mk hy212
          clear hy212
          have H' := Aside0.mk H
          clear H
          go_wp2_with (first | ((with_reducible refine gate_builtin (b := .append) (xs := #[.tmp 10, .tmp 12]) rfl ?_); at_builtin; refine Kd.R_append (Kd.int .i64) (w0 := w) w.heap.size rfl (.tmp 10) (.tmp 12) 22 3 (.int .i64 0) 8 rfl Try.underlying22 info3 rfl (by decide) (by omega) u3 x3_1 x7_1 [.int .i64 x7_1] (fun _ => True) (fun _ => False) rfl rfl ?aP (fun _ hk => hk.elim) ?aF ?aO ?aB ?aS ?aL ?_; (case aP => exact rfl); (case aB => exact (by repeat (first | (with_reducible first | exact HB.out | apply below_alloc | apply pw_below_drewN | apply below_drew1) | exact HB.out))); (case aF => exact (fun _ _ => trivial)); (case aO => exact (by (with_reducible repeat (first | apply Kd.R_alloc | apply Kd.R_drewN | apply Kd.R_drew)); exact HO_3.out)); (case aS => exact (below_size (by repeat (first | (with_reducible first | exact HB.out | apply below_alloc | apply pw_below_drewN | apply below_drew1) | exact HB.out)))); (case aL => have := LMc5.out; omega); intro v213 w6 ho hb hg hat; rw [← Ny212.out] at ho; have n0_ := Aside0.mk (hb); have n1_ := Aside0.mk (ho); clear HB; clear HO_3; have HB := n0_; have HO214 := n1_; clear n0_ n1_; clear ho hb hg hat))
          go_roundg k1
          case measure => have := HK1.out; omega
          case rel => exact ⟨(y212), (wrap64 (x7_1 + 1)), (by first | rfl | (simp; done) | (simp [*]; done)), H', ⟨by have := HK1.out; omega⟩, ⟨by (with_reducible repeat (first | apply Kd.R_alloc | apply Kd.R_drewN | apply Kd.R_drew)); exact HO214.out⟩, ⟨by repeat (first | (with_reducible first | exact HB.out | apply below_alloc | apply pw_below_drewN | apply below_drew1) | exact HB.out)⟩⟩
        · rw [if_neg c5] at H
          exact absurd H (by simp)
      · rw [if_neg c4] at H
        have c4b0 : decide (x7_1 < a0) = false := decide_eq_false c4
        clear c4
        obtain rfl := Option.some.inj H
        go_wp2
        go_ret
        exact ⟨_, by first | rfl | (simp [errW_none, errW_some] <;> rfl) | (simp [*, errW_none, errW_some] <;> rfl), by (with_reducible repeat (first | apply Kd.R_alloc | apply Kd.R_drewN | apply Kd.R_drew)); exact HO_3.out, by repeat (first | (with_reducible first | exact HB.out | apply below_alloc | apply pw_below_drewN | apply below_drew1) | exact HB.out)⟩

/-! ### impl_depths: function 22 -/
/-- an order whose numbers have one sign each -/
def ordOk (p : List Int) : Bool := decide (p.length ≤ 100) && p.all fun x => decide (0 ≤ x ∧ x < 10)
def keyB (p : List Int) : ByteArray := strOfNums (p.map fun x => (wrap64 (48 + x)) % 256)
def keyL (p : List Int) : Lit := .string (keyB p).data.toList
/-- an order that has a key, and this is told by so many rounds -/
def keyOk (k : Nat) (p : List Int) : Bool := ordOk p && decide (impl_orderKey.f k p = some (keyB p))
def putD (x : List Int) (v : Int) (q : List (List Int × Int)) : List (List Int × Int) := if q.any (fun e => decide (e.1 = x)) then q else q ++ [(x, v)]
def depIn (k : Nat) (p : List Int) (v : Int) : List (List Int) → List (List Int × Int) → Option (List (List Int × Int))
  | [], q => some q
  | l :: ls, q => (impl_laid.f k p l).bind fun x => if keyOk k x = true ∧ q.length < 10000 then depIn k p v ls (putD x v q) else none
def depL (k0 : Nat) (ls : List (List Int)) : Nat → Nat → List (List Int × Int) → Option (List (List Int × Int))
  | 0, _, _ => none
  | k + 1, i, q => match q[i]? with
    | none => some q
    | some e => if keyOk k0 e.1 = true ∧ i < 10000 then (depIn k0 e.1 (wrap64 (e.2 + 1)) ls q).bind fun q' => depL k0 ls k (i + 1) q' else none
def impl_depths.f (k : Nat) (a0 : Int) : Option (List (List Int × Int)) := if 2 ≤ a0 ∧ a0 ≤ 6 then (impl_identity.f k a0).bind fun p => if keyOk k p = true then depL k (lvl (a0.toNat - 1) 8 0 []) k 0 [(p, 0)] else none else none
theorem keyOk_ok {k : Nat} {p : List Int} (h : keyOk k p = true) : ordOk p = true ∧ impl_orderKey.f k p = some (keyB p) := by
  unfold keyOk at h
  rw [Bool.and_eq_true] at h
  exact ⟨h.1, of_decide_eq_true h.2⟩
theorem keyOk_mono {k : Nat} {p : List Int} (h : keyOk k p = true) : keyOk (k + 1) p = true := by
  obtain ⟨h1, h2⟩ := keyOk_ok h
  unfold keyOk
  rw [h1, impl_orderKey.mono p k _ h2]
  simp
theorem LeO.guard {α : Type} {p q : Prop} [Decidable p] [Decidable q] {a b : Option α} (hpq : p → q) (h : LeO a b) : LeO (if p then a else none) (if q then b else none) := by
  intro r hr
  by_cases hp : p
  · rw [if_pos hp] at hr
    rw [if_pos (hpq hp)]
    exact h r hr
  · rw [if_neg hp] at hr
    cases hr
theorem depIn_mono (k : Nat) (p : List Int) (v : Int) : ∀ ls q, LeO (depIn k p v ls q) (depIn (k + 1) p v ls q)
  | [], _ => LeO.refl _
  | _ :: _, _ => LeO.bind (impl_laid.mono _ _ _) fun _ => LeO.guard (fun h => ⟨keyOk_mono h.1, h.2⟩) (depIn_mono k p v _ _)
theorem depL_mono (k0 : Nat) (ls : List (List Int)) : ∀ k i q, LeO (depL k0 ls k i q) (depL (k0 + 1) ls (k + 1) i q)
  | 0, _, _ => LeO.none _
  | k + 1, i, q => by
    unfold depL
    cases q[i]? with
    | none => exact LeO.refl _
    | some e => exact LeO.guard (fun h => ⟨keyOk_mono h.1, h.2⟩) (LeO.bind (depIn_mono _ _ _ _ _) fun _ => depL_mono k0 ls k _ _)
theorem impl_depths.mono : ∀ a0 k, LeO (impl_depths.f k a0) (impl_depths.f (k + 1) a0) := fun _ _ => LeO.ite (LeO.bind (impl_identity.mono _ _) fun _ => LeO.guard keyOk_mono (depL_mono _ _ _ _ _)) (LeO.refl _)
theorem keyB_data (p : List Int) : (keyB p).data.toList = p.map fun x => UInt8.ofNat ((wrap64 (48 + x)) % 256).toNat := by
  unfold keyB strOfNums
  simp
theorem keyL_inj {p p' : List Int} (h : ordOk p = true) (h' : ordOk p' = true) (e : keyL p = keyL p') : p = p' := by
  have e1 : (keyB p).data.toList = (keyB p').data.toList := by injection e
  rw [keyB_data, keyB_data] at e1
  unfold ordOk at h h'
  rw [Bool.and_eq_true, List.all_eq_true] at h h'
  have h2 := h.2
  have h2' := h'.2
  clear h h' e
  induction p generalizing p' with
  | nil => cases p' with
    | nil => rfl
    | cons a p' => cases e1
  | cons a p ih => cases p' with
    | nil => cases e1
    | cons b p' =>
      simp only [List.map_cons, List.cons.injEq] at e1
      have ha := of_decide_eq_true (h2 a (by simp))
      have hb := of_decide_eq_true (h2' b (by simp))
      have e2 := congrArg UInt8.toNat e1.1
      rw [show (wrap64 (48 + a)) % 256 = 48 + a by unfold wrap64; omega, show (wrap64 (48 + b)) % 256 = 48 + b by unfold wrap64; omega] at e2
      simp at e2
      rw [show a = b by omega, ih e1.2 (fun x hx => h2 x (by simp [hx])) (fun x hx => h2' x (by simp [hx]))]
theorem keyB_size (p : List Int) : (keyB p).size = p.length := by
  have := congrArg List.length (keyB_data p)
  simpa using this
/-- what the map tells of the list of orders and depths -/
def DepD (D : DataW Unit) (q : List (List Int × Int)) : Prop := Maps.IsMap D ∧ (∀ p, ordOk p = true → Maps.has D (keyL p) = q.any (fun e => decide (e.1 = p))) ∧ (∀ e, e ∈ q → ordOk e.1 = true ∧ ∀ z, D.atKey (keyL e.1) z = .lit (.int .i64 e.2)) ∧ (∀ kl, Maps.has D kl = true → ∃ e, e ∈ q ∧ keyL e.1 = kl) ∧ (q.map (·.1)).Nodup
theorem DepD.put {D : DataW Unit} {q : List (List Int × Int)} (h : DepD D q) {x : List Int} {v : Int} (hx : ordOk x = true) (hn : q.any (fun e => decide (e.1 = x)) = false) : DepD (D.put (keyL x) (.lit (.int .i64 v))) (q ++ [(x, v)]) := by
  obtain ⟨h1, h2, h3, h4, h5⟩ := h
  have hk : WideAt.IsKeyLit (keyL x) := trivial
  have hm : ∀ e, e ∈ q → e.1 ≠ x := by
    intro e he e1
    rw [List.any_eq_false] at hn
    exact hn e he (decide_eq_true e1)
  refine ⟨?_, fun p hp => ?_, fun e he => ?_, fun kl hkl => ?_, ?_⟩
  · obtain ⟨es, rfl⟩ := h1
    exact ⟨_, rfl⟩
  · by_cases e : p = x
    · subst e
      rw [Maps.has_put_same h1 hk]
      simp
    · rw [Maps.has_put_other (fun e2 => e (keyL_inj hp hx e2)), h2 p hp]
      simp [show ¬ x = p from fun e2 => e e2.symm]
  · rw [List.mem_append] at he
    rcases he with he | he
    · obtain ⟨g1, g2⟩ := h3 e he
      refine ⟨g1, fun z => ?_⟩
      rw [Maps.atKey_put_other (fun e2 => hm e he (keyL_inj g1 hx e2))]
      exact g2 z
    · rw [List.mem_singleton] at he
      subst he
      exact ⟨hx, fun z => Maps.atKey_put_same h1 hk _ _⟩
  · by_cases e : kl = keyL x
    · exact ⟨(x, v), by simp, e.symm⟩
    · rw [Maps.has_put_other e] at hkl
      obtain ⟨e2, he2, hk2⟩ := h4 kl hkl
      exact ⟨e2, by simp [he2], hk2⟩
  · rw [List.map_append, List.nodup_append]
    refine ⟨h5, by simp, fun a ha b hb => ?_⟩
    rw [List.mem_map] at ha
    obtain ⟨e, he, rfl⟩ := ha
    simp at hb
    subst hb
    exact hm e he
theorem DepD.nil : DepD (.map []) [] := ⟨⟨[], rfl⟩, fun p _ => rfl, fun e he => (by cases he), fun kl h => (by cases h), List.nodup_nil⟩
/-- the depth of an order; 0 of any other -/
def lookD (q : List (List Int × Int)) (p : List Int) : Int := match q.find? (fun e => decide (e.1 = p)) with | some e => e.2 | none => 0
theorem DepD.look {D : DataW Unit} {q : List (List Int × Int)} (h : DepD D q) {p : List Int} (hp : ordOk p = true) : D.atKey (keyL p) (.lit (.int .i64 0)) = .lit (.int .i64 (lookD q p)) := by
  obtain ⟨h1, h2, h3, h4, h5⟩ := h
  unfold lookD
  cases hf : q.find? (fun e => decide (e.1 = p)) with
  | some e =>
    have hm := List.mem_of_find?_eq_some hf
    have hp2 := List.find?_some hf
    have e1 : e.1 = p := of_decide_eq_true hp2
    rw [← e1]
    exact (h3 e hm).2 _
  | none =>
    rw [List.find?_eq_none] at hf
    exact Maps.atKey_of_not_has (by rw [h2 p hp, List.any_eq_false]; exact hf) _
theorem str_keyed : Maps.Keyed Try.prog 9 := Maps.string_keyed Try.underlying9
theorem keyOf_str {p : List Int} (h : ordOk p = true) : keyOf Try.prog 9 (.string (keyB p)) = some (keyL p) := by
  unfold keyOf
  rw [Try.underlying9]
  have h1 : p.length ≤ 100 := by
    unfold ordOk at h
    rw [Bool.and_eq_true] at h
    exact of_decide_eq_true h.1
  have h2 : (keyB p).size ≤ maxLen := by rw [keyB_size]; exact Nat.le_trans h1 (by decide)
  simp [mapKey, Try.underlying9, h2]
  rfl
def Dep (w : World) (bm : Nat) (q : List (List Int × Int)) : Prop := ∃ D : DataW Unit, w.ownsMap Try.prog 9 (plainElem Try.prog 3) bm q.length D ∧ DepD D q
theorem Dep.kept {w w1 : World} {bm : Nat} {q : List (List Int × Int)} (h : Dep w bm q) {row : Option Nat} (hg : w.grownBy w1 row) (hne : some bm ≠ row) : Dep w1 bm q := by
  obtain ⟨D, h1, h2⟩ := h
  exact ⟨D, h1.kept hg hne, h2⟩
theorem Dep.below {w w1 : World} {bm : Nat} {q : List (List Int × Int)} (h : Dep w bm q) (hb : Below w.heap.size w w1) : Dep w1 bm q := h.kept (grown_of_below hb none) (by simp)
theorem Dep.lt {w : World} {bm : Nat} {q : List (List Int × Int)} (h : Dep w bm q) : bm < w.heap.size := by
  obtain ⟨D, h1, _⟩ := h
  exact h1.lt
section
variable {ops : Array Oper} {rest : List Oper} {o : Oper} {a : Act} {Q : Exit → Act → World → Prop} {W : World}
theorem dep_made (hop : o.op = .makeMap 39 none) (hgd : o.guard = none) (h : ∀ b w1, b = W.heap.size → Dep w1 b [] → Below W.heap.size W w1 → wpList Try.prog ops Q rest (a.put o.dst (.map (some b))) w1) : wpList Try.prog ops Q (o :: rest) a W := by
  refine wpList_plain hgd fun K' hK' => ?_
  unfold Oper.wp
  simp [execOp, hop, run_makeMap, Result.andThen]
  exact hK' _ _ (h _ _ rfl ⟨_, World.ownsMap_made W _ _ _, DepD.nil⟩ (below_alloc (Below.refl _ _) _))
theorem Dep.put {w : World} {bm : Nat} {q : List (List Int × Int)} (h : Dep w bm q) {x : List Int} {d : Int} (hx : ordOk x = true) (hn : q.any (fun e => decide (e.1 = x)) = false) (hq : q.length < 10000) (hd : (Lit.int .i64 d).wf = true) :
    ∃ w', (Instr.mapUpdate 39 (.map (some bm)) (.string (keyB x)) (.int .i64 d)).run Try.prog w = .ok () w' ∧ Dep w' bm (q ++ [(x, d)]) ∧ w.grownBy w' (some bm) := by
  obtain ⟨D, h1, h2⟩ := h
  obtain ⟨w', r1, r2, r3⟩ := h1.update str_keyed Try.underlying39 (Nat.lt_trans hq (by decide)) (keyOf_str hx) (plainElem_int Try.underlying3 hd)
  exact ⟨w', r1, ⟨_, by rw [List.length_append]; exact r2, h2.put hx hn⟩, r3⟩
theorem dep_put (m y v : Operand) (hop : o.op = .insert 39 m y v ∨ o.op = .mapUpdate 39 m y v) (hgd : o.guard = none) (bm : Nat) (q : List (List Int × Int)) (x : List Int) (d : Int) (hm : a.eval m = .map (some bm)) (hy : a.eval y = .string (keyB x)) (hv : a.eval v = .int .i64 d)
    (hD : Dep W bm q) (hx : ordOk x = true) (hn : q.any (fun e => decide (e.1 = x)) = false) (hq : q.length < 10000) (hd : (Lit.int .i64 d).wf = true) (h : ∀ w1, Dep w1 bm (q ++ [(x, d)]) → W.grownBy w1 (some bm) → wpList Try.prog ops Q rest (a.put o.dst undef) w1) : wpList Try.prog ops Q (o :: rest) a W := by
  refine wpList_plain hgd fun K' hK' => ?_
  obtain ⟨w', r1, r2, r3⟩ := hD.put hx hn hq hd
  unfold Oper.wp
  rcases hop with hop | hop <;> (simp [execOp, hop, hm, hy, hv, r1, Result.andThen]; exact hK' _ _ (h w' r2 r3))
theorem zero_int (w : World) : (zeroValue 3).run Try.prog w = .ok (.int .i64 0) w := by kernel_rfl
theorem dep_look (m y : Operand) (hop : o.op = .lookup 39 m y false) (hgd : o.guard = none) (bm : Nat) (q : List (List Int × Int)) (x : List Int) (hm : a.eval m = .map (some bm)) (hy : a.eval y = .string (keyB x)) (hD : Dep W bm q) (hx : ordOk x = true)
    (h : wpList Try.prog ops Q rest (a.put o.dst (.int .i64 (lookD q x))) W) : wpList Try.prog ops Q (o :: rest) a W := by
  obtain ⟨D, h1, h2⟩ := hD
  refine wpList_lookup_own_int W hgd m y 39 hop 9 3 .i64 str_keyed Try.underlying39 Try.underlying3 (zero_int W) bm _ D hm h1 _ _ hy (keyOf_str hx) (fun c hc _ => ?_)
  rw [h2.look hx] at hc
  injection hc with hc
  injection hc with _ hc
  rw [← hc]
  exact h
theorem dep_look_ok (m y : Operand) (hop : o.op = .lookup 39 m y true) (hgd : o.guard = none) (bm : Nat) (q : List (List Int × Int)) (x : List Int) (hm : a.eval m = .map (some bm)) (hy : a.eval y = .string (keyB x)) (hD : Dep W bm q) (hx : ordOk x = true)
    (h : wpList Try.prog ops Q rest (a.put o.dst (.tuple #[.int .i64 (lookD q x), .bool (q.any fun e => decide (e.1 = x))])) W) : wpList Try.prog ops Q (o :: rest) a W := by
  obtain ⟨D, h1, h2⟩ := hD
  refine wpList_lookup_own_ok_int W hgd m y 39 hop 9 3 .i64 str_keyed Try.underlying39 Try.underlying3 (zero_int W) bm _ D hm h1 _ _ hy (keyOf_str hx) (fun c hc _ => ?_)
  rw [h2.look hx] at hc
  injection hc with hc
  injection hc with _ hc
  rw [← hc, h2.2.1 x hx]
  exact h
end
/-- an order of the queue: where it stands, and what it leads to -/
theorem q_at {W : World} {base : Nat} {ok : Nat → Prop} {A : Option Addr} {n cap : Nat} {xs : List (List Int)} {p : List Int} (h : Kd.N (Kd.slice 3 (Kd.int .i64)) 22 W base ok (.slice A n cap) xs) (i : Nat) (hi : xs[i]? = some p) :
    ∃ ad A' c', A = some ad ∧ W.cell? (ad.add i) = some (.slice A' p.length c') ∧ Kd.V (Kd.int .i64) 3 W base (fun k => ok k ∧ some k ≠ (Value.slice A n cap).ownBlock) (.slice A' p.length c') p := by
  obtain ⟨hi, rfl⟩ := List.getElem?_eq_some_iff.1 hi
  have hn := (Kd.N_reads' h).1
  obtain ⟨g, cap', e1, _, _, _⟩ := Kd.N_form h (by omega)
  injection e1 with e1 e2 e3
  subst e1
  obtain ⟨c, hcl, hF, hcc⟩ := Kd.N_get h [] (i : Int) (by omega) (by omega)
  have ex : xs.getD (i : Int).toNat [] = xs[i] := by simp [hi]
  rw [ex] at hF
  obtain ⟨A', c', rfl, hl, hC⟩ := Kd.FK_now hF
  have hx := hcc 0 _ rfl
  rw [show (i : Int).toNat * (Kd.slice 3 (Kd.int .i64)).sz + 0 = i by show (i : Int).toNat * 1 + 0 = i; omega] at hx
  refine ⟨_, A', c', rfl, hx, Kd.V_mk hl (fun W' hW => ?_)⟩
  obtain ⟨A2, c2, e, _, hC2⟩ := hF W' hW
  injection e with e _
  injection e with e _ _
  subst e
  exact hC2
theorem l_at {W : World} {A : Option Addr} {n : Nat} {xs : List (List Int)} {p : List Int} (h : Kd.C (Kd.slice 3 (Kd.int .i64)) W A n xs) (i : Nat) (hi : xs[i]? = some p) :
    ∃ ad A' c', A = some ad ∧ W.cell? (ad.add i) = some (.slice A' p.length c') ∧ p.length ≤ c' ∧ Kd.C (Kd.int .i64) W A' p.length p := by
  obtain ⟨hi, rfl⟩ := List.getElem?_eq_some_iff.1 hi
  obtain ⟨ad, c, e, hcl, hK, hcc⟩ := Kd.C_get h [] (i : Int) (by omega) (by have := h.1; omega)
  have ex : xs.getD (i : Int).toNat [] = xs[i] := by simp [hi]
  rw [ex] at hK
  obtain ⟨A', c', rfl, hl, hC⟩ := hK
  have hx := hcc 0 _ rfl
  rw [show (i : Int).toNat * (Kd.slice 3 (Kd.int .i64)).sz + 0 = i by show (i : Int).toNat * 1 + 0 = i; omega] at hx
  exact ⟨ad, A', c', e, hx, hl, hC⟩
theorem q_fk {W : World} {base : Nat} {ok : Nat → Prop} {A : Option Addr} {c : Nat} {p : List Int} (h : Kd.V (Kd.int .i64) 3 W base ok (.slice A p.length c) p) : Kd.FK (Kd.slice 3 (Kd.int .i64)) W ok p [.slice A p.length c] := fun W' hW => ⟨A, c, rfl, (Kd.V_reads' h).2.1, Kd.V_F h W' hW⟩
theorem DepD.own {D : DataW Unit} {q : List (List Int × Int)} (h : DepD D q) {e : List Int × Int} {i : Nat} (he : q[i]? = some e) : lookD q e.1 = e.2 := by
  have h1 := h.look (h.2.2.1 e (List.mem_of_getElem? he)).1
  rw [(h.2.2.1 e (List.mem_of_getElem? he)).2] at h1
  injection h1 with h1
  injection h1 with _ h1
  exact h1.symm
theorem Dep.own {w : World} {bm : Nat} {q : List (List Int × Int)} (h : Dep w bm q) {e : List Int × Int} {i : Nat} (he : q[i]? = some e) : lookD q e.1 = e.2 := by
  obtain ⟨D, _, h2⟩ := h
  exact h2.own he
theorem lvl_few : ∀ m, m ≤ 5 → (lvl m 8 0 []).length ≤ 1000 := by decide +kernel
set_option maxHeartbeats 4000000 in
set_option maxRecDepth 100000 in
theorem impl_depths.calls (k : Nat) (a0 : Int) (r : List (List Int × Int)) (w : World) (h : impl_depths.f k a0 = some r) :
    Calls Try.prog 22 #[.int .i64 a0] w fun e w' => ∃ bm, e = .returned (.map (some bm)) ∧ w.heap.size ≤ bm ∧ Dep w' bm r ∧ Below w.heap.size w w' := by
  unfold impl_depths.f at h
  by_cases hn : 2 ≤ a0 ∧ a0 ≤ 6
  case neg => rw [if_neg hn] at h; cases h
  rw [if_pos hn] at h
  replace h := Option.bind_eq_some_iff.mp h
  obtain ⟨p, hp, h⟩ := h
  by_cases hk : keyOk k p = true
  case neg => rw [if_neg hk] at h; cases h
  rw [if_pos hk] at h
  obtain ⟨n, rfl⟩ : ∃ n : Nat, a0 = n := ⟨a0.toNat, by omega⟩
  rw [show ((n : Int).toNat - 1) = n - 1 by omega] at h
  obtain ⟨ls, hls⟩ : ∃ ls, ls = lvl (n - 1) 8 0 [] := ⟨_, rfl⟩
  rw [← hls] at h
  have HL := Lib.hid (lvl_few (n - 1) (by omega))
  have hN : 2 ≤ n ∧ n ≤ 8 := by omega
  have HN := Lib.hid hN
  have HLS := Aside0.mk hls
  have HP := Aside0.mk hp
  have HK := Aside0.mk (keyOk_ok hk)
  have H' := Aside0.mk h
  clear hn hp hk h hls hN
  go_enter Try.func22, Try.ntmps22
  go_wp2_with (first | ((with_reducible refine gate_callee (f := 29) rfl ?_); refine goesL_ (some 14) rfl rfl Try.func29 (by kernel_rfl) rfl #[.int .i64 (n : Int), .slice none ([] : List Int).length 0, .int .i64 ((0 : Nat) : Int), .slice none 0 0] rfl (by (try simp only [List.map_toArray, List.map_cons, List.map_nil]); first | done | rfl | (simp only [List.length_drop, List.length_take]; rfl)) ?_; refine (allLevels_gen n HN.out.1 HN.out.2 8 0 none 0 [] (.slice none 0 0) [] (fun _ => False) (fun _ => False) w _ (by omega) (by have := HN.out; omega) (by simp) (by have := HL.out; simp; omega) (Below.refl _ _) (Kd.R_nil _ _ _ _ _) (Kd.S_nil _ _ _ _ _) (fun _ h => h.elim)).mono ?_; rintro e w1 ⟨v1, rfl, hS, hb, _, _⟩; refine ⟨_, rfl, ?_⟩; obtain ⟨A1, c1, ev1⟩ := Kd.S_slice hS; subst ev1; have HC1 := Aside0.mk (Kd.S_reads' hS).2.2; have HB0 := Aside0.mk hb; clear hS hb; simp only [List.nil_append] at HC1; rw [← HLS.out] at HC1; simp only [List.nil_append]; simp only [← HLS.out]) | ((with_reducible refine gate_callee (f := 32) rfl ?_); refine goesL_ (some 16) rfl rfl Try.func32 (by kernel_rfl) rfl #[.int .i64 (n : Int)] rfl (by (try simp only [List.map_toArray, List.map_cons, List.map_nil]); first | done | rfl) ?_; (with_reducible refine (impl_identity.calls k (n : Int) p _ HP.out).mono ?_); rintro e w2 ⟨v2, rfl, hR, hb⟩; refine ⟨_, rfl, ?_⟩; obtain ⟨A2, c2, ev2⟩ := Kd.R_slice hR; subst ev2; have HR2 := Aside0.mk hR; have HB := Aside0.mk hb; clear hR hb) | ((with_reducible refine gate_dst (N := 17) rfl ?_); refine Kd.R_lit (Kd.slice 3 (Kd.int .i64)) w1.heap.size 22 ?hg (N := 17) ?hd (xs := [p]) (inner := [.slice A2 p.length c2]) (ok := fun _ => True) (okp := fun _ => True) ?hr ?hp (fun _ hk => hk) trivial HB.out HB.out.size (by simp) ?_; (case hd => rfl); (case hg => rfl); (case hr => first | (go_simp; done) | (go_simp; rfl)); (case hp => exact (Reps.one (show Kd.M (Kd.slice 3 (Kd.int .i64)) _ _ _ p [.slice A2 p.length c2] from ⟨_, rfl, HR2.out⟩) (Reps.none _ _))); intro v3 w3 ho3 hb hg_ hnew_; clear hg_ hnew_; obtain ⟨A3, c3, ev3⟩ := Kd.R_slice ho3; subst ev3; have HQ := Aside0.mk (Kd.R_N ho3); replace HB := Aside0.mk hb; clear ho3 hb) | ((with_reducible refine gate_dst (N := 18) rfl ?_); refine dep_made rfl rfl ?_; intro bm w4 hbm hD hb; have HD := Aside0.mk hD; replace HQ := Aside0.mk (Kd.N_below (Kd.N_elderB HQ.out bm (by rw [hbm]; exact Nat.le_refl _)) hb); have HBM := Aside0.mk (show w1.heap.size ≤ bm by rw [hbm]; exact HB.out.size); replace HB := Aside0.mk (below_step HB.out hb); clear hbm hb hD; obtain ⟨ad3, A4, c4, e4, hx4, hv4⟩ := q_at HQ.out 0 rfl; cases e4; rw [Addr.add_zero'] at hx4; have HV4 := Aside0.mk hv4; clear hv4; simp only [List.length_singleton] at HV4) | ((with_reducible refine gate_callee (f := 26) rfl ?_); refine goesL_ (some 22) rfl rfl Try.func26 (by kernel_rfl) rfl #[.slice A4 p.length c4] rfl (by (try simp only [List.map_toArray, List.map_cons, List.map_nil]); first | done | rfl) ?_; (with_reducible refine (impl_orderKey.calls k A4 c4 p (keyB p) _ (Kd.V_reads' HV4.out).2.2 (Kd.V_reads' HV4.out).2.1 HK.out.2).mono ?_); rintro e w5 ⟨rfl, hb⟩; refine ⟨_, rfl, ?_⟩; replace HQ := Aside0.mk (Kd.N_below HQ.out hb); replace HD := Aside0.mk (HD.out.below hb); replace HB := Aside0.mk (below_step HB.out hb); clear hb) | ((with_reducible refine gate_ (.insert 39 (.tmp 18) (.tmp 22) (.const (.int .i64 0))) rfl ?_); refine dep_put (.tmp 18) (.tmp 22) (.const (.int .i64 0)) (.inl rfl) rfl bm [] p 0 rfl rfl rfl HD.out HK.out.1 rfl (by decide) (by decide) ?_; intro w6 hD hg; replace HD := Aside0.mk hD; replace HQ := Aside0.mk (Kd.N_grown HQ.out hg (fun k_ hk_ e_ => hk_.2 (by injection e_))); replace HB := Aside0.mk (pw_below_grown HB.out (some bm) HB.out.size hg (by intro k e; injection e with e; rw [← e]; exact HBM.out)); clear hD hg))
  go_loopg [4, 6] k (fun gg v4 v6 wr => ∃ (i : Nat) (q : List (List Int × Int)), v6 = .int .i64 (i : Int) ∧ Aside0 (depL k ls gg i q = some r) ∧ i ≤ q.length ∧ Aside0 (Kd.N (Kd.slice 3 (Kd.int .i64)) 22 wr w1.heap.size (fun k_ => True ∧ k_ ≠ bm) v4 (q.map (·.1))) ∧ Aside0 (Dep wr bm q) ∧ Aside0 (Below w1.heap.size w1 wr))
  case atStart => exact ⟨0, [(p, 0)], rfl, H', by simp, HQ, HD, HB⟩
  case round =>
    clear H' HQ HD HB hx4 HV4 HR2
    obtain ⟨i, q, rfl, HF, hi, HQ, HD, HB⟩ := hrel
    obtain ⟨wq, hwq⟩ : ∃ wq : World, wq = wr := ⟨_, rfl⟩
    obtain ⟨Aq, cq, eq⟩ := Kd.N_slice HQ.out
    subst eq
    obtain ⟨qs, hqs⟩ : ∃ qs, qs = q.map (·.1) := ⟨_, rfl⟩
    rw [← hqs] at HQ ⊢
    have hql : qs.length = q.length := by rw [hqs]; simp
    cases gk with
    | zero => have hF := HF.out; simp [depL] at hF
    | succ gg =>
      have hF := HF.out
      clear HF
      simp only [depL] at hF
      cases he : q[i]? with
      | none =>
        rw [he] at hF
        obtain rfl := Option.some.inj hF
        have hnl := List.getElem?_eq_none_iff.1 he
        have c1 : decide ((i : Int) < (qs.length : Int)) = false := decide_eq_false (by omega)
        have c2 : decide (i < qs.length) = false := decide_eq_false (by omega)
        clear hF he hnl hi hql hqs hwq
        go_wp2
        go_ret
        exact ⟨bm, rfl, Nat.le_trans HB0.out.size HBM.out, HD.out, below_step HB0.out HB.out⟩
      | some e =>
        rw [he] at hF
        simp only at hF
        by_cases hk : keyOk k e.1 = true ∧ i < 10000
        case neg => rw [if_neg hk] at hF; cases hF
        rw [if_pos hk] at hF
        replace hF := Option.bind_eq_some_iff.mp hF
        obtain ⟨q', hq', hF⟩ := hF
        have hlt : i < q.length := (List.getElem?_eq_some_iff.1 he).1
        have hqi : qs[i]? = some e.1 := by rw [hqs, List.getElem?_map, he]; rfl
        obtain ⟨ad, Ap, cp, ea, hx, hv⟩ := q_at HQ.out i hqi
        cases ea
        have c1 : decide ((i : Int) < (qs.length : Int)) = true := decide_eq_true (by omega)
        have p1 : (0 ≤ (i : Int)) = True := eq_true (by omega)
        have q1 : ((i : Int) < (qs.length : Int)) = True := eq_true (by omega)
        have HO := Aside0.mk (HD.out.own he)
        have HV := Aside0.mk hv
        have HK := Aside0.mk (keyOk_ok hk.1)
        have HI := Lib.hid hk.2
        have HE := Aside0.mk he
        have HR := Aside0.mk hF
        have HIN := Aside0.mk hq'
        have HQS := Aside0.mk hqs
        have HQL := Lib.hid hql
        clear he hF hk hlt hqi hv hq' hql hqs hi hwq
        go_wp2_with (first | ((with_reducible refine gate_callee (f := 26) rfl ?_); refine goesL_ (some 35) rfl rfl Try.func26 (by kernel_rfl) rfl #[.slice Ap e.1.length cp] rfl (by (try simp only [List.map_toArray, List.map_cons, List.map_nil]); first | done | rfl) ?_; (with_reducible refine (impl_orderKey.calls k Ap cp e.1 (keyB e.1) _ (Kd.V_reads' HV.out).2.2 (Kd.V_reads' HV.out).2.1 HK.out.2).mono ?_); rintro ee w7 ⟨rfl, hb⟩; refine ⟨_, rfl, ?_⟩; replace HQ := Aside0.mk (Kd.N_below HQ.out hb); replace HD := Aside0.mk (HD.out.below hb); replace HB := Aside0.mk (below_step HB.out hb); clear hb hx) | ((with_reducible refine gate_ (.lookup 39 (.tmp 30) (.tmp 35) false) rfl ?_); refine dep_look (.tmp 30) (.tmp 35) rfl rfl bm q e.1 rfl rfl HD.out HK.out.1 ?_; rw [HO.out]))
        clear HV p1 q1 c1
        go_loopg [4, 39] ls.length (fun gh v4 v39 wr => ∃ (j : Nat) (q2 : List (List Int × Int)), v39 = .int .i64 (j : Int) ∧ Aside0 (depIn k e.1 (wrap64 (e.2 + 1)) (ls.drop j) q2 = some q') ∧ Aside0 (q2[i]? = some e) ∧ j ≤ ls.length ∧ ls.length - j ≤ gh ∧ Aside0 (Kd.N (Kd.slice 3 (Kd.int .i64)) 22 wr w1.heap.size (fun k_ => True ∧ k_ ≠ bm) v4 (q2.map (·.1))) ∧ Aside0 (Dep wr bm q2) ∧ Aside0 (Below w1.heap.size w1 wr))
        case atStart => exact ⟨0, q, rfl, ⟨by rw [List.drop_zero]; exact HIN.out⟩, HE, Nat.zero_le _, by omega, ⟨by rw [← HQS.out]; exact HQ.out⟩, HD, HB⟩
        case round =>
          clear HQ HD HB HIN HE HQS HQL HO
          obtain ⟨j, q2, rfl, HIN, HE, hj, hgh, HQ, HD, HB⟩ := hrel
          obtain ⟨Aq2, cq2, eq2⟩ := Kd.N_slice HQ.out
          subst eq2
          obtain ⟨qs2, hqs2⟩ : ∃ qs, qs = q2.map (·.1) := ⟨_, rfl⟩
          rw [← hqs2] at HQ ⊢
          have hql2 : qs2.length = q2.length := by rw [hqs2]; simp
          by_cases hjl : j < ls.length
          · have hlj : ls[j]? = some ls[j] := List.getElem?_eq_getElem hjl
            obtain ⟨lv, hlv⟩ : ∃ lv, lv = ls[j] := ⟨_, rfl⟩
            rw [← hlv] at hlj
            have hI := HIN.out
            rw [List.drop_eq_getElem_cons hjl, ← hlv] at hI
            simp only [depIn] at hI
            replace hI := Option.bind_eq_some_iff.mp hI
            obtain ⟨x, hx1, hI⟩ := hI
            by_cases hk2 : keyOk k x = true ∧ q2.length < 10000
            case neg => rw [if_neg hk2] at hI; cases hI
            rw [if_pos hk2] at hI
            have hqi2 : qs2[i]? = some e.1 := by rw [hqs2, List.getElem?_map, HE.out]; rfl
            have hil : i < q2.length := (List.getElem?_eq_some_iff.1 HE.out).1
            obtain ⟨ad2, Ap2, cp2, ea2, hx2, hv2⟩ := q_at HQ.out i hqi2
            cases ea2
            obtain ⟨adl, Al, cl, eal, hxl, hcl, hCl⟩ := l_at (Kd.C_below HC1.out HB.out) j hlj
            cases eal
            have c1 : decide ((j : Int) < (ls.length : Int)) = true := decide_eq_true (by omega)
            have p1 : (0 ≤ (i : Int)) = True := eq_true (by omega)
            have q1 : ((i : Int) < (qs2.length : Int)) = True := eq_true (by omega)
            have p2 : (0 ≤ (j : Int)) = True := eq_true (by omega)
            have q3 : ((j : Int) < (ls.length : Int)) = True := eq_true (by omega)
            have hgh' : ls.length - (j + 1) ≤ gk - 1 ∧ gk - 1 < gk := by omega
            have HVP : Aside0 (Kd.V (Kd.int .i64) 3 wr wr.heap.size (fun k_ => (True ∧ k_ ≠ bm) ∧ some k_ ≠ (Value.slice (some ad2) qs2.length cq2).ownBlock) (.slice Ap2 e.1.length cp2) e.1) := ⟨hv2⟩
            have HCL := Aside0.mk hCl
            have HCC := Aside0.mk hcl
            have HX := Aside0.mk hx1
            have HKX := Aside0.mk (keyOk_ok hk2.1)
            have HQN := Lib.hid hk2.2
            have HREST := Aside0.mk hI
            have HQS2 := Aside0.mk hqs2
            have HJ := Lib.hid hjl
            have HG := Lib.hid hgh'
            have HWJ := Lib.hid (show wrap64 ((j : Int) + 1) = ((j + 1 : Nat) : Int) by have := HL.out; rw [← HLS.out] at this; unfold wrap64; omega)
            have HQ2L := Lib.hid hql2
            clear hlj hlv hI hk2 hqi2 hil hv2 hCl hcl hx1 hjl hgh hj HIN hqs2 hql2 hgh'
            have HWF := Aside0.mk (show (Lit.int .i64 (wrap64 (e.2 + 1))).wf = true from by simp [Lit.wf, IntKind.min, IntKind.max, IntKind.bits, IntKind.signed]; unfold wrap64; omega)
            cases hmet : q2.any (fun e => decide (e.1 = x)) with
            | true =>
              go_wp2_with (first | ((with_reducible refine gate_callee (f := 30) rfl ?_); refine goesL_ (some 48) rfl rfl Try.func30 (by kernel_rfl) rfl #[.slice Ap2 e.1.length cp2, .slice Al lv.length cl] rfl (by (try simp only [List.map_toArray, List.map_cons, List.map_nil]); first | done | rfl) ?_; (with_reducible refine (impl_laid.calls k _ Ap2 cp2 e.1 Al cl lv x _ HVP.out HCL.out HCC.out HX.out).mono ?_); rintro ee w7 ⟨v7, rfl, hV, hb⟩; refine ⟨_, rfl, ?_⟩; obtain ⟨Ax, cx, ex⟩ := Kd.V_slice hV; subst ex; have HVX := Aside0.mk (Kd.V_mono hV (fun k_ h_ => h_.elim id (fun hn => (⟨⟨trivial, fun e_ => by have := HD.out.lt; omega⟩, fun e_ => by have := Kd.N_lt HQ.out k_ e_.symm; omega⟩ : (True ∧ k_ ≠ bm) ∧ some k_ ≠ (Value.slice (some ad2) qs2.length cq2).ownBlock)))); replace HQ := Aside0.mk (Kd.N_below HQ.out hb); replace HD := Aside0.mk (HD.out.below hb); replace HB := Aside0.mk (below_step HB.out hb); clear hb hV hx2 hxl HVP) | ((with_reducible refine gate_callee (f := 26) rfl ?_); refine goesL_ (some 52) rfl rfl Try.func26 (by kernel_rfl) rfl #[.slice Ax x.length cx] rfl (by (try simp only [List.map_toArray, List.map_cons, List.map_nil]); first | done | rfl) ?_; (with_reducible refine (impl_orderKey.calls k Ax cx x (keyB x) _ (Kd.V_reads' HVX.out).2.2 (Kd.V_reads' HVX.out).2.1 HKX.out.2).mono ?_); rintro ee w8 ⟨rfl, hb⟩; refine ⟨_, rfl, ?_⟩; replace HQ := Aside0.mk (Kd.N_below HQ.out hb); replace HD := Aside0.mk (HD.out.below hb); replace HVX := Aside0.mk (Kd.V_below HVX.out hb); replace HB := Aside0.mk (below_step HB.out hb); clear hb) | ((with_reducible refine gate_ (.lookup 39 (.tmp 50) (.tmp 52) true) rfl ?_); refine dep_look_ok (.tmp 50) (.tmp 52) rfl rfl bm q2 x rfl rfl HD.out HKX.out.1 ?_; rw [hmet]))
              go_roundg (gk - 1)
              case measure => exact HG.out.2
              case rel => exact ⟨j + 1, q2, (by rw [HWJ.out]), ⟨by have h_ := HREST.out; unfold putD at h_; rw [if_pos hmet] at h_; exact h_⟩, HE, HJ.out, HG.out.1, ⟨by rw [← HQS2.out]; exact HQ.out⟩, HD, HB⟩
            | false =>
              go_wp2_with (first | ((with_reducible refine gate_callee (f := 30) rfl ?_); refine goesL_ (some 48) rfl rfl Try.func30 (by kernel_rfl) rfl #[.slice Ap2 e.1.length cp2, .slice Al lv.length cl] rfl (by (try simp only [List.map_toArray, List.map_cons, List.map_nil]); first | done | rfl) ?_; (with_reducible refine (impl_laid.calls k _ Ap2 cp2 e.1 Al cl lv x _ HVP.out HCL.out HCC.out HX.out).mono ?_); rintro ee w7 ⟨v7, rfl, hV, hb⟩; refine ⟨_, rfl, ?_⟩; obtain ⟨Ax, cx, ex⟩ := Kd.V_slice hV; subst ex; have HVX := Aside0.mk (Kd.V_mono hV (fun k_ h_ => h_.elim id (fun hn => (⟨⟨trivial, fun e_ => by have := HD.out.lt; omega⟩, fun e_ => by have := Kd.N_lt HQ.out k_ e_.symm; omega⟩ : (True ∧ k_ ≠ bm) ∧ some k_ ≠ (Value.slice (some ad2) qs2.length cq2).ownBlock)))); replace HQ := Aside0.mk (Kd.N_below HQ.out hb); replace HD := Aside0.mk (HD.out.below hb); replace HB := Aside0.mk (below_step HB.out hb); clear hb hV hx2 hxl HVP) | ((with_reducible refine gate_callee (f := 26) rfl ?_); refine goesL_ (some 52) rfl rfl Try.func26 (by kernel_rfl) rfl #[.slice Ax x.length cx] rfl (by (try simp only [List.map_toArray, List.map_cons, List.map_nil]); first | done | rfl) ?_; (with_reducible refine (impl_orderKey.calls k Ax cx x (keyB x) _ (Kd.V_reads' HVX.out).2.2 (Kd.V_reads' HVX.out).2.1 HKX.out.2).mono ?_); rintro ee w8 ⟨rfl, hb⟩; refine ⟨_, rfl, ?_⟩; replace HQ := Aside0.mk (Kd.N_below HQ.out hb); replace HD := Aside0.mk (HD.out.below hb); replace HVX := Aside0.mk (Kd.V_below HVX.out hb); replace HB := Aside0.mk (below_step HB.out hb); clear hb) | ((with_reducible refine gate_ (.lookup 39 (.tmp 50) (.tmp 52) true) rfl ?_); refine dep_look_ok (.tmp 50) (.tmp 52) rfl rfl bm q2 x rfl rfl HD.out HKX.out.1 ?_; rw [hmet]) | ((with_reducible refine gate_callee (f := 26) rfl ?_); refine goesL_ (some 60) rfl rfl Try.func26 (by kernel_rfl) rfl #[.slice Ax x.length cx] rfl (by (try simp only [List.map_toArray, List.map_cons, List.map_nil]); first | done | rfl) ?_; (with_reducible refine (impl_orderKey.calls k Ax cx x (keyB x) _ (Kd.V_reads' HVX.out).2.2 (Kd.V_reads' HVX.out).2.1 HKX.out.2).mono ?_); rintro ee w9 ⟨rfl, hb⟩; refine ⟨_, rfl, ?_⟩; replace HQ := Aside0.mk (Kd.N_below HQ.out hb); replace HD := Aside0.mk (HD.out.below hb); replace HVX := Aside0.mk (Kd.V_below HVX.out hb); replace HB := Aside0.mk (below_step HB.out hb); clear hb) | ((with_reducible refine gate_ (.mapUpdate 39 (.tmp 58) (.tmp 60) (.tmp 62)) rfl ?_); refine dep_put (.tmp 58) (.tmp 60) (.tmp 62) (.inr rfl) rfl bm q2 x (wrap64 (e.2 + 1)) rfl rfl rfl HD.out HKX.out.1 hmet HQN.out HWF.out ?_; intro w10 hD hg; replace HD := Aside0.mk hD; replace HQ := Aside0.mk (Kd.N_grown HQ.out hg (fun k_ hk_ e_ => hk_.2 (by injection e_))); replace HVX := Aside0.mk (Kd.V_step HVX.out (fun k_ h_ hl_ => hg.block k_ hl_ (fun e_ => h_.1.2 (by injection e_)))); replace HB := Aside0.mk (pw_below_grown HB.out (some bm) HB.out.size hg (by intro k e; injection e with e; rw [← e]; exact HBM.out)); clear hD hg) | ((with_reducible refine gate_builtin (b := .append) (xs := #[.tmp 63, .tmp 65]) rfl ?_); at_builtin; refine Kd.N_append (Kd.slice 3 (Kd.int .i64)) (w0 := w1) w1.heap.size rfl (.tmp 63) (.tmp 65) 32 22 (.slice none 0 0) 24 rfl Try.underlying32 info22 rfl (by decide) (by omega) (.slice (some ad2) qs2.length cq2) qs2 x [.slice Ax x.length cx] (fun k_ => True ∧ k_ ≠ bm) (fun k_ => (True ∧ k_ ≠ bm) ∧ some k_ ≠ (Value.slice (some ad2) qs2.length cq2).ownBlock) rfl rfl (q_fk HVX.out) (fun _ h => h) (fun k_ hk_ => ⟨trivial, fun e_ => by have := HD.out.lt; omega⟩) HQ.out HB.out HB.out.size (by have := HQN.out; have := HQ2L.out; omega) ?_; intro v11 w11 hN hb hg hat; replace HD := Aside0.mk (HD.out.kept hg (fun e_ => (HQ.out.1 bm e_.symm).2 rfl)); replace HQ := Aside0.mk hN; replace HB := Aside0.mk hb; clear hN hb hg hat))
              go_roundg (gk - 1)
              case measure => exact HG.out.2
              case rel => exact ⟨j + 1, q2 ++ [(x, wrap64 (e.2 + 1))], (by rw [HWJ.out]), ⟨by have h_ := HREST.out; unfold putD at h_; rw [if_neg (by rw [hmet]; simp)] at h_; exact h_⟩, ⟨by rw [List.getElem?_append_left (List.getElem?_eq_some_iff.1 HE.out).1]; exact HE.out⟩, HJ.out, HG.out.1, ⟨by rw [List.map_append, ← HQS2.out]; exact HQ.out⟩, HD, HB⟩
          · have c1 : decide ((j : Int) < (ls.length : Int)) = false := decide_eq_false (by omega)
            have c2 : decide (j < ls.length) = false := decide_eq_false (by omega)
            have hI := HIN.out
            rw [List.drop_of_length_le (by omega)] at hI
            simp only [depIn] at hI
            obtain rfl := Option.some.inj hI
            have HWI := Lib.hid (show wrap64 ((i : Int) + 1) = ((i + 1 : Nat) : Int) by have := HI.out; unfold wrap64; omega)
            have HIL := Lib.hid (show i + 1 ≤ q2.length from (List.getElem?_eq_some_iff.1 HE.out).1)
            have HQS2 := Aside0.mk hqs2
            clear hI hjl hj hgh HIN hqs2 hql2
            go_wp2
            go_roundg gg
            case measure => exact Nat.lt_succ_self _
            case rel => exact ⟨i + 1, q2, (by rw [HWI.out]), HR, HIL.out, ⟨by rw [← HQS2.out]; exact HQ.out⟩, HD, HB⟩


/-! ### laws_eqIntS: function 8 -/
def laws_eqIntS.l0 : Nat → List Int → List Int → Int → Option (Bool)
  | 0, _, _, _ => none
  | k + 1, x0, x1, x5 => if x5 < (x0.length : Int) then (if 0 ≤ x5 then (if x5 < (x1.length : Int) then (if (rd x0 x5) = (rd x1 x5) then (laws_eqIntS.l0 k x0 x1 (wrap64 (x5 + 1))) else (some false)) else (none)) else (none)) else (some true)
def laws_eqIntS.f (k : Nat) (l0 : List Int) (l1 : List Int) : Option (Bool) := if (l0.length : Int) = (l1.length : Int) then (laws_eqIntS.l0 k l0 l1 0) else (some false)
theorem laws_eqIntS.mono_l : ∀ k, (∀ y0 y1 y2, LeO (laws_eqIntS.l0 k y0 y1 y2) (laws_eqIntS.l0 (k + 1) y0 y1 y2))
  | 0 => fun _ _ _ r h => by simp [laws_eqIntS.l0] at h
  | k + 1 => by
    have ih0 := laws_eqIntS.mono_l k
    · intro y0 y1 y2
      unfold laws_eqIntS.l0
      repeat' first
      | (with_reducible exact ih0 _ _ _)
      | (with_reducible exact LeO.refl _)
      | (with_reducible exact LeO.none _)
      | (with_reducible refine LeO.ite ?_ ?_)
      | (with_reducible refine LeO.bind ?_ (fun _ => ?_))
      | exact ih0 _ _ _
      | exact LeO.none _
      | refine LeO.ite ?_ ?_
      | refine LeO.bind ?_ (fun _ => ?_)
theorem laws_eqIntS.mono : ∀ a0 a1 k, LeO (laws_eqIntS.f k a0 a1) (laws_eqIntS.f (k + 1) a0 a1) := by
  intro a0 a1 k
  have ih0 := laws_eqIntS.mono_l k
  unfold laws_eqIntS.f
  repeat' first
      | (with_reducible exact ih0 _ _ _)
      | (with_reducible exact LeO.refl _)
      | (with_reducible exact LeO.none _)
      | (with_reducible refine LeO.ite ?_ ?_)
      | (with_reducible refine LeO.bind ?_ (fun _ => ?_))
      | exact ih0 _ _ _
      | exact LeO.none _
      | refine LeO.ite ?_ ?_
      | refine LeO.bind ?_ (fun _ => ?_)
set_option maxHeartbeats 8000000 in
set_option maxRecDepth 100000 in
theorem laws_eqIntS.calls (k : Nat) (A0 : Option Addr) (c0 : Nat) (l0 : List Int) (A1 : Option Addr) (c1 : Nat) (l1 : List Int) (r : Bool) (w : World) (hr0 : Kd.C (Kd.int .i64) w A0 l0.length l0) (hc0 : l0.length ≤ c0) (hr1 : Kd.C (Kd.int .i64) w A1 l1.length l1) (hc1 : l1.length ≤ c1) (h : laws_eqIntS.f k l0 l1 = some r) :
    Calls Try.prog 8 #[.slice A0 l0.length c0, .slice A1 l1.length c1] w fun e w' => e = .returned (.bool r) ∧ Drawn0 w w' := by
  have HR0 := Aside0.mk hr0
  have HC0 := Aside0.mk hc0
  clear hr0 hc0
  have HR1 := Aside0.mk hr1
  have HC1 := Aside0.mk hc1
  clear hr1 hc1
  have H : (if (l0.length : Int) = (l1.length : Int) then (laws_eqIntS.l0 k l0 l1 0) else (some false)) = some r := h
  clear h
  by_cases c3 : (l0.length : Int) = (l1.length : Int)
  · rw [if_pos c3] at H
    have c3b0 : ((l0.length : Int) == (l1.length : Int)) = true := beq_iff_eq.mpr c3
    have c3b1 : ((l0.length : Int) != (l1.length : Int)) = false := bne_eq_false_iff_eq.mpr c3
    have c3b2 : (l0.length == l1.length) = true := by first | simpa using c3 | (simp at c3 ⊢; omega)
    clear c3
    have H' := Aside0.mk H
    clear H
    go_enter Try.func8, Try.ntmps8
    go_wp2
    repeat (go_quiet (fail); try go_wp2)
    go_loopg [5] k (fun kq v5 w' => ∃ (x5_1 : Int), v5 = .int .i64 x5_1 ∧ Aside0 (laws_eqIntS.l0 kq l0 l1 x5_1 = some r) ∧ Aside0 (kq ≤ k) ∧ Drawn0 w w')
    case atStart => exact ⟨(0), (by first | rfl | (simp; done) | (simp [*]; done)), H', ⟨Nat.le_refl _⟩, by repeat (first | exact Drawn0.refl _ | apply Drawn0.step)⟩
    case round =>
      clear H'
      try clear c1
      try clear p2
      try clear c3
      try clear c3b0
      try clear c3b1
      try clear c3b2
      obtain ⟨x5_1, rfl, HA, HK1, ⟨m1, rfl⟩⟩ := hrel
      cases gk with
      | zero => exact absurd HA.out (by simp [laws_eqIntS.l0])
      | succ k1 =>
        have H := HA.out
        clear HA
        simp only [laws_eqIntS.l0] at H
        by_cases c4 : x5_1 < (l0.length : Int)
        · rw [if_pos c4] at H
          have c4b0 : decide (x5_1 < (l0.length : Int)) = true := decide_eq_true c4
          clear c4
          by_cases c5 : 0 ≤ x5_1
          · rw [if_pos c5] at H
            have c5b0 : decide (0 ≤ x5_1) = true := decide_eq_true c5
            clear c5
            by_cases c6 : x5_1 < (l1.length : Int)
            · rw [if_pos c6] at H
              have c6b0 : decide (x5_1 < (l1.length : Int)) = true := decide_eq_true c6
              clear c6
              by_cases c7 : (rd l0 x5_1) = (rd l1 x5_1)
              · rw [if_pos c7] at H
                have c7b0 : ((rd l0 x5_1) == (rd l1 x5_1)) = true := beq_iff_eq.mpr c7
                have c7b1 : ((rd l0 x5_1) != (rd l1 x5_1)) = false := bne_eq_false_iff_eq.mpr c7
                clear c7
                have H' := Aside0.mk H
                clear H
                have p215 : 0 ≤ (x5_1 : Int) := of_decide_eq_true (by first | (with_reducible assumption) | assumption)
                have q215 : x5_1 < (l0.length : Int) := of_decide_eq_true (by first | (with_reducible assumption) | assumption)
                obtain ⟨ad215, e215, hx215_0⟩ := Kd.at_int HR0.out x5_1 p215 q215
                cases e215
                replace p215 := eq_true p215
                replace q215 := eq_true q215
                have p216 : 0 ≤ (x5_1 : Int) := of_decide_eq_true (by first | (with_reducible assumption) | assumption)
                have q216 : x5_1 < (l1.length : Int) := of_decide_eq_true (by first | (with_reducible assumption) | assumption)
                obtain ⟨ad216, e216, hx216_0⟩ := Kd.at_int HR1.out x5_1 p216 q216
                cases e216
                replace p216 := eq_true p216
                replace q216 := eq_true q216
                go_wp2
                repeat (go_quiet (fail); try go_wp2)
                go_roundg k1
                case measure => have := HK1.out; omega
                case rel => exact ⟨(wrap64 (x5_1 + 1)), (by first | rfl | (simp; done) | (simp [*]; done)), H', ⟨by have := HK1.out; omega⟩, by repeat (first | exact Drawn0.refl _ | apply Drawn0.step)⟩
              · rw [if_neg c7] at H
                have c7b0 : ((rd l0 x5_1) == (rd l1 x5_1)) = false := beq_eq_false_iff_ne.mpr c7
                have c7b1 : ((rd l0 x5_1) != (rd l1 x5_1)) = true := bne_iff_ne.mpr c7
                obtain rfl := Option.some.inj H
                have p215 : 0 ≤ (x5_1 : Int) := of_decide_eq_true (by first | (with_reducible assumption) | assumption)
                have q215 : x5_1 < (l0.length : Int) := of_decide_eq_true (by first | (with_reducible assumption) | assumption)
                obtain ⟨ad215, e215, hx215_0⟩ := Kd.at_int HR0.out x5_1 p215 q215
                cases e215
                replace p215 := eq_true p215
                replace q215 := eq_true q215
                have p216 : 0 ≤ (x5_1 : Int) := of_decide_eq_true (by first | (with_reducible assumption) | assumption)
                have q216 : x5_1 < (l1.length : Int) := of_decide_eq_true (by first | (with_reducible assumption) | assumption)
                obtain ⟨ad216, e216, hx216_0⟩ := Kd.at_int HR1.out x5_1 p216 q216
                cases e216
                replace p216 := eq_true p216
                replace q216 := eq_true q216
                go_wp2
                repeat (go_quiet (fail); try go_wp2)
                go_ret
                exact ⟨by first | rfl | (simp; done) | (simp [*]; done), by repeat (first | exact Drawn0.refl _ | apply Drawn0.step)⟩
            · rw [if_neg c6] at H
              exact absurd H (by simp)
          · rw [if_neg c5] at H
            exact absurd H (by simp)
        · rw [if_neg c4] at H
          have c4b0 : decide (x5_1 < (l0.length : Int)) = false := decide_eq_false c4
          clear c4
          obtain rfl := Option.some.inj H
          go_wp2
          repeat (go_quiet (fail); try go_wp2)
          go_ret
          exact ⟨by first | rfl | (simp; done) | (simp [*]; done), by repeat (first | exact Drawn0.refl _ | apply Drawn0.step)⟩
  · rw [if_neg c3] at H
    have c3b0 : ((l0.length : Int) == (l1.length : Int)) = false := beq_eq_false_iff_ne.mpr c3
    have c3b1 : ((l0.length : Int) != (l1.length : Int)) = true := bne_iff_ne.mpr c3
    have c3b2 : (l0.length == l1.length) = false := by first | simpa using c3 | (simp at c3 ⊢; omega)
    obtain rfl := Option.some.inj H
    go_enter Try.func8, Try.ntmps8
    go_wp2
    repeat (go_quiet (fail); try go_wp2)
    go_ret
    exact ⟨by first | rfl | (simp; done) | (simp [*]; done), by repeat (first | exact Drawn0.refl _ | apply Drawn0.step)⟩

end Go.Proofs.Ytojbmihkdlkkcaa.B
