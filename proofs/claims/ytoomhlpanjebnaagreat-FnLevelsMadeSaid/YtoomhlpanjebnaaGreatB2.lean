/- The walks of functions of the given program and of its reference: each call of the machine returns what the plain Lean function of the same name says. Conditions: those in each statement. (Written by this session's program over the kit's print.) -/
import Derived.Test.YtoomhlpanjebnaaGreatWShort
import Derived.Test.YtoomhlpanjebnaaGreatB0
import Derived.Test.YtoomhlpanjebnaaGreatB1
import Derived.Test.YtoomhlpanjebnaaGreatT
namespace Go.Proofs.YtoomhlpanjebnaaGreat.B
open Go.RowKit Go.Proofs.YtoomhlpanjebnaaGreatW.PrintWords Go.Proofs.YtoomhlpanjebnaaGreatW.PrintLast Go.Proofs.YtoomhlpanjebnaaGreatW.PrintMore
attribute [local go_sem] max2_int min2_int max_two min_two max_three min_three max_four min_four   -- for this text's walks alone
set_option linter.unusedVariables false
set_option linter.unusedSimpArgs false
set_option maxHeartbeats 8000000
set_option maxRecDepth 100000
set_option maxHeartbeats 8000000
set_option maxRecDepth 100000

/-! ### spec_l1Put: function 75 -/
def spec_l1Put.l0 : Nat → List Int → Int → Int → Option (List Int)
 | 0, _, _, _ => none
 | k + 1, x0, x1, x5 => if x5 < (x0.length : Int) then (if 0 ≤ x5 then (if (rd x0 x5) < x1 then (spec_l1Put.l0 k x0 x1 (wrap64 (x5 + 1))) else (if (rd x0 x5) = x1 then (some x0) else ((some (([] : List Int) : List Int)).bind fun y296 => (if x5 ≤ (x0.length : Int) then ((some (x0.take (x5 : Int).toNat : List Int)).bind fun y299 => (if y296.length + y299.length < 17592186044416 then ((some (y296 ++ y299 : List Int)).bind fun y303 => (if y303.length < 17592186044416 then ((some (y303 ++ [x1] : List Int)).bind fun y306 => ((some (x0.drop (x5 : Int).toNat : List Int)).bind fun y309 => (if y306.length + y309.length < 17592186044416 then (some (y306 ++ y309)) else (none)))) else (none))) else (none))) else (none))))) else (none)) else ((some (([] : List Int) : List Int)).bind fun y316 => (if 0 ≤ x5 then (if x5 ≤ (x0.length : Int) then ((some (x0.take (x5 : Int).toNat : List Int)).bind fun y319 => (if y316.length + y319.length < 17592186044416 then ((some (y316 ++ y319 : List Int)).bind fun y323 => (if y323.length < 17592186044416 then ((some (y323 ++ [x1] : List Int)).bind fun y326 => ((some (x0.drop (x5 : Int).toNat : List Int)).bind fun y329 => (if y326.length + y329.length < 17592186044416 then (some (y326 ++ y329)) else (none)))) else (none))) else (none))) else (none)) else (none)))
def spec_l1Put.f (k : Nat) (l0 : List Int) (a1 : Int) : Option (List Int) := spec_l1Put.l0 k l0 a1 0
theorem spec_l1Put.mono_l : ∀ k, (∀ y0 y1 y2, LeO (spec_l1Put.l0 k y0 y1 y2) (spec_l1Put.l0 (k + 1) y0 y1 y2))
 | 0 => fun _ _ _ r h => by simp [spec_l1Put.l0] at h
 | k + 1 => by
  have ih0 := spec_l1Put.mono_l k
  ·intro y0 y1 y2;unfold spec_l1Put.l0;exact mo_
theorem spec_l1Put.mono : ∀ a0 a1 k, LeO (spec_l1Put.f k a0 a1) (spec_l1Put.f (k + 1) a0 a1) := by
 intro a0 a1 k;have ih0 := spec_l1Put.mono_l k;unfold spec_l1Put.f;exact mo_
theorem spec_l1Put.calls (k : Nat) (P0_ : Nat → Prop) (u9000_ : Value) (l0 : List Int) (a1 : Int) (r : List Int) (w0 w : World) (hB : Below w0.heap.size w0 w) (ho0 : Kd.R (Kd.int .i64) 3 w w0.heap.size P0_ u9000_ l0) (h : spec_l1Put.f k l0 a1 = some r) :
 Calls Tryz.prog 75 #[u9000_, .int .i64 a1] w fun e w' => ∃ v0_ : Value, e = .returned (v0_) ∧ Kd.R (Kd.int .i64) 3 w' w0.heap.size (fun k_ => (P0_ k_ ∨ w.heap.size ≤ k_)) v0_ r ∧ Below w0.heap.size w0 w' ∧ Kept w w' (fun k_ => P0_ k_) := by
 have HO0 := a_ (show Kd.R (Kd.int .i64) 3 w w0.heap.size (fun k_ => (P0_ k_ ∨ w.heap.size ≤ k_)) u9000_ l0 from Kd.R_mono ho0 (fun k_ hk => (.inl hk)));have HK := a_ (Kept.refl w (fun k_ => P0_ k_));have HW0 := a_ hB.size;have HB := a_ hB;clear hB;have H := h;unfold spec_l1Put.f at H;clear h;have H' := a_ H;clear H;go_enter Tryz.func75, Tryz.ntmps75;go_wp2;go_loopg [5] k (fun kq v5 w' => ∃ (x5_1 : Int), v5 = .int .i64 x5_1 ∧ Aside0 (spec_l1Put.l0 kq l0 a1 x5_1 = some r) ∧ Aside0 (kq ≤ k) ∧ Aside0 (Kd.R (Kd.int .i64) 3 w' w0.heap.size (fun k_ => (P0_ k_ ∨ w.heap.size ≤ k_)) u9000_ l0) ∧ Aside0 (Kept w w' (fun k_ => P0_ k_)) ∧ Aside0 (Below w0.heap.size w0 w'))
 case atStart => exact ⟨(0), rs_, H', ⟨Nat.le_refl _⟩, ⟨Rl_ HO0.out⟩, ⟨Kp_ HK⟩, ⟨Bl_ HB⟩⟩
 case round =>
  as_aux_lemma =>
  clear H';obtain ⟨x5_1, rfl, HA, HK1, HO_0, HK, HB⟩ := hrel
  cases gk with
  | zero => exact absurd HA.out (by simp [spec_l1Put.l0])
  | succ k1 =>
   have H := HA.out;clear HA;simp only [spec_l1Put.l0] at H;rcases ib_ H with ⟨c3, H⟩ | ⟨c3, H⟩
   ·have c3b0 := decide_eq_false c3;clear c3;(first | obtain ⟨y316, Ny316, H⟩ := ya_ (x := (([] : List Int))) H | (generalize hy_ : (([] : List Int)) = y316 at H;have Ny316 := a_ hy_.symm;clear hy_));obtain ⟨c24, H⟩ := in_ H;have c24b0 := eq_true c24;have c24b1 : decide (0 ≤ x5_1) = true := decide_eq_true c24;clear c24;by_cases c25 : x5_1 ≤ (l0.length : Int);rotate_left
    ·rw [if_neg c25] at H
     cases H
    rw [if_pos c25] at H;have c25b0 := eq_true c25;have c25b1 : decide (x5_1 ≤ (l0.length : Int)) = true := decide_eq_true c25;clear c25;(first | obtain ⟨y319, Ny319, H⟩ := ya_ (x := (l0.take (x5_1 : Int).toNat)) H | (generalize hy_ : (l0.take (x5_1 : Int).toNat) = y319 at H;have Ny319 := a_ hy_.symm;clear hy_));obtain ⟨LMc26, H⟩ := ia_ H;(first | obtain ⟨y323, Ny323, H⟩ := ya_ (x := (y316 ++ y319)) H | (generalize hy_ : (y316 ++ y319) = y323 at H;have Ny323 := a_ hy_.symm;clear hy_));obtain ⟨LMc27, H⟩ := ia_ H;(first | obtain ⟨y326, Ny326, H⟩ := ya_ (x := (y323 ++ [a1])) H | (generalize hy_ : (y323 ++ [a1]) = y326 at H;have Ny326 := a_ hy_.symm;clear hy_));have c28b0 := eq_true (od_ : 0 ≤ x5_1);have c29b0 := eq_true (od_ : x5_1 ≤ (l0.length : Int));(first | obtain ⟨y329, Ny329, H⟩ := ya_ (x := (l0.drop (x5_1 : Int).toNat)) H | (generalize hy_ : (l0.drop (x5_1 : Int).toNat) = y329 at H;have Ny329 := a_ hy_.symm;clear hy_));obtain ⟨LMc30, H⟩ := ia_ H;generalize hy_ : (y326 ++ y329) = y333 at H;have Ny333 := a_ hy_.symm;clear hy_;obtain rfl := s1_ H;obtain ⟨Ao31, co31, eo31⟩ := Kd.R_slice HO_0.out;subst eo31
    go_wp2_with (first | ((with_reducible refine gate_dst (N := 34) rfl ?_); refine Kd.R_lit (Kd.int .i64) _ 3 ?hg (N := 34) ?hd (xs := ([] : List Int)) (inner := []) (ok := fun _ => True) (okp := fun _ => True) ?hr ?hp (fun _ hk => hk) trivial (Below.refl _ _) (Nat.le_refl _) (by simp) ?_; (case hd => rfl); (case hg => rfl); (case hr => first | (go_simp; done) | (go_simp; rfl)); (case hp => exact (Reps.none _ _)); intro v317 w32 ho33 hb hg_ hnew_; clear hg_ hnew_; (first | rw [← Ny316.out] at ho33 | (simp only [Int.reduceToNat] at ho33; rw [← Ny316.out] at ho33)); have HO318 := a_ (Kd.R_lower (Kd.R_new' (Kd.R_newM (M := fun k_ => (P0_ k_ ∨ w.heap.size ≤ k_)) ho33 (by first | exact HK.out.1 | exact (show Kept w _ (fun k_ => P0_ k_) from Kp_ HK).1) (fun k_ h_ => .inr h_)) (Kd.R_lt (Rl_ HO_0.out))) (below_size (Bl_ HB))); replace HO_0 := a_ (Kd.R_elder' (Rl_ HO_0.out) (Kd.R_base ho33) hb); replace HK := a_ (Kept.below (S := (fun k_ => P0_ k_)) (Kp_ HK) hb); replace HB := Bs_ HB hb; clear hb ho33; have q34 : (x5_1 : Int) ≤ ((l0.length : Int) : Int) := od_; obtain ⟨i034, hi034, _, hsz34, _⟩ := info_parts info3; have hroom34 : l0.length ≤ co31 := (Kd.R_reads' HO_0.out).2.1; have hC34 : Kd.C (Kd.int .i64) _ Ao31 l0.length l0 := (Kd.R_reads' HO_0.out).2.2; have hcut34 := cut_to (P := Tryz.prog) 24 3 .i64 Tryz.underlying24 hi034 Ao31 l0.length co31 x5_1 (od_) q34 hroom34; have hr34 := Kd.C_take (m := (x5_1 : Int).toNat) hC34 (by omega); have hy34 : y319.length = (x5_1 : Int).toNat := (by rw [Ny319.out, List.length_take]; omega); rw [← Ny319.out] at hr34; rw [← hy34] at hcut34; have HR322 := a_ hr34; have HC322 := a_ (show y319.length ≤ co31 from by omega); clear hr34 hC34 hroom34 hi034 hsz34; have KY34 := a_ hy34; clear hy34; have KL34 := a_ (show (x5_1 : Int).toNat ≤ l0.length from by omega); replace q34 := eq_true q34) | ((with_reducible refine gate_builtin (b := .append) (xs := #[.tmp 34, .tmp 37]) rfl ?_); at_builtin; refine Kd.R_append_rows (Kd.int .i64) (w0 := w0) w0.heap.size rfl (.tmp 34) (.tmp 37) 24 3 (.int .i64 0) 8 rfl Tryz.underlying24 info3 rfl (by decide) (by omega) v317 y316 y319 _ _ _ (fun k_ => (P0_ k_ ∨ w.heap.size ≤ k_) ∧ some k_ ≠ (.slice Ao31 l0.length co31 : Value).ownBlock) (fun _ => False) rfl rfl ?aO ?aR (fun _ _ h => h) (fun _ h => h.elim) ?aF ?aB ?aS ?aL ?_; (case aR => repeat (first | exact (by repeat (first | (with_reducible exact HR322.out) | (with_reducible refine Kd.C_alloc ?_ _) | (with_reducible refine Kd.C_drewN ?_ _) | (with_reducible refine Kd.C_drew ?_) | exact HR322.out)) | (with_reducible refine Kd.C_alloc ?_ _) | (with_reducible refine Kd.C_drewN ?_ _) | (with_reducible refine Kd.C_drew ?_))); (case aB => exact (Bl_ HB)); (case aF => exact (fun k_ hk => ⟨(.inr (Nat.le_trans (by first | exact HK.out.1 | exact (show Kept w _ (fun k_ => P0_ k_) from Kp_ HK).1) hk)), Kd.fresh' (Kd.R_lt (Rl_ HO_0.out)) k_ hk⟩)); (case aO => exact (Rl_ (Kd.R_mono HO318.out (fun _ hk => ⟨hk.1.1, hk.2⟩)))); (case aS => exact (below_size (Bl_ HB))); (case aL => have := LMc26.out; omega); intro v324 w35 ho hb hg hat; rw [← Ny323.out] at ho; replace HB := a_ (hb); replace HK := a_ (Kept.of_grown (S := (fun k_ => P0_ k_)) hg (Kp_ HK) (fun k_ e_ => (HO318.out.1 k_ e_).1.1)); replace HR322 := a_ ((show Kd.C (Kd.int .i64) w35 Ao31 y319.length y319 from by rw [Ny319.out]; exact Kd.C_take (m := (x5_1 : Int).toNat) ((Kd.R_reads' (Kd.R_after (ok := (fun k_ => (P0_ k_ ∨ w.heap.size ≤ k_))) (Rl_ HO_0.out) hg hat)).2.2) KL34.out)); replace HO_0 := a_ (Kd.R_after (ok := (fun k_ => (P0_ k_ ∨ w.heap.size ≤ k_))) (Rl_ HO_0.out) hg hat); have HO325 := a_ (ho); clear HO318; clear ho hb hg hat) | ((with_reducible refine gate_builtin (b := .append) (xs := #[.tmp 39, .tmp 41]) rfl ?_); at_builtin; refine Kd.R_append (Kd.int .i64) (w0 := w0) w0.heap.size rfl (.tmp 39) (.tmp 41) 24 3 (.int .i64 0) 8 rfl Tryz.underlying24 info3 rfl (by decide) (by omega) v324 y323 a1 [.int .i64 a1] (fun k_ => (P0_ k_ ∨ w.heap.size ≤ k_) ∧ some k_ ≠ (.slice Ao31 l0.length co31 : Value).ownBlock) (fun _ => False) rfl rfl ?aP (fun _ hk => hk.elim) ?aF ?aO ?aB ?aS ?aL ?_; (case aP => exact rfl); (case aB => exact (Bl_ HB)); (case aF => exact (fun k_ hk => ⟨(.inr (Nat.le_trans (by first | exact HK.out.1 | exact (show Kept w _ (fun k_ => P0_ k_) from Kp_ HK).1) hk)), Kd.fresh' (Kd.R_lt (Rl_ HO_0.out)) k_ hk⟩)); (case aO => exact (Rl_ HO325.out)); (case aS => exact (below_size (Bl_ HB))); (case aL => have := LMc27.out; omega); intro v327 w36 ho hb hg hat; rw [← Ny326.out] at ho; replace HB := a_ (hb); replace HK := a_ (Kept.of_grown (S := (fun k_ => P0_ k_)) hg (Kp_ HK) (fun k_ e_ => (HO325.out.1 k_ e_).1)); replace HR322 := a_ ((show Kd.C (Kd.int .i64) w36 Ao31 y319.length y319 from by rw [Ny319.out]; exact Kd.C_take (m := (x5_1 : Int).toNat) ((Kd.R_reads' (Kd.R_after (ok := (fun k_ => (P0_ k_ ∨ w.heap.size ≤ k_))) (Rl_ HO_0.out) hg hat)).2.2) KL34.out)); replace HO_0 := a_ (Kd.R_after (ok := (fun k_ => (P0_ k_ ∨ w.heap.size ≤ k_))) (Rl_ HO_0.out) hg hat); have HO328 := a_ (ho); clear HO325; clear ho hb hg hat; have q37 : (x5_1 : Int) ≤ ((l0.length : Int) : Int) := od_; obtain ⟨i037, hi037, _, hsz37, _⟩ := info_parts info3; have hroom37 : l0.length ≤ co31 := (Kd.R_reads' HO_0.out).2.1; have hC37 : Kd.C (Kd.int .i64) _ Ao31 l0.length l0 := (Kd.R_reads' HO_0.out).2.2; have q037 : (0 : Int) ≤ (x5_1 : Int) := od_; have hcut37 := cut_from (P := Tryz.prog) 24 3 .i64 Tryz.underlying24 hi037 1 hsz37 Ao31 l0.length co31 x5_1 q037 q37; have hr37 := Kd.C_drop (m := (x5_1 : Int).toNat) (c := co31) hC37 (by omega) hroom37; obtain ⟨A37, hA37⟩ : ∃ A1, A1 = (if co31 = (x5_1 : Int).toNat then Ao31 else (Ao31 : Option Addr).map (·.add ((x5_1 : Int).toNat * 1))) := ⟨_, rfl⟩; obtain ⟨c37, hc37⟩ : ∃ c1, c1 = co31 - (x5_1 : Int).toNat := ⟨_, rfl⟩; have hy37 : y329.length = l0.length - (x5_1 : Int).toNat := (by rw [Ny329.out, List.length_drop] <;> omega); rw [show (l0).drop (x5_1 : Int).toNat = y329 from Ny329.out.symm] at hr37; replace hr37 : Kd.C (Kd.int .i64) _ A37 y329.length y329 := (by rw [hA37]; exact hr37); rw [← hy37, ← hA37, ← hc37] at hcut37; have HR332 := a_ hr37; have HC332 := a_ (show y329.length ≤ c37 from by rw [hy37, hc37]; exact Nat.sub_le_sub_right hroom37 _); clear hr37 hC37 hroom37 hi037 hsz37 hc37; have KY37 := a_ hy37; have KA37 := a_ hA37; clear hy37 hA37; have KL37 := a_ (show (x5_1 : Int).toNat ≤ l0.length from by omega); replace q37 := eq_true q37) | ((with_reducible refine gate_builtin (b := .append) (xs := #[.tmp 43, .tmp 46]) rfl ?_); at_builtin; refine Kd.R_append_rows (Kd.int .i64) (w0 := w0) w0.heap.size rfl (.tmp 43) (.tmp 46) 24 3 (.int .i64 0) 8 rfl Tryz.underlying24 info3 rfl (by decide) (by omega) v327 y326 y329 _ _ _ (fun k_ => (P0_ k_ ∨ w.heap.size ≤ k_) ∧ some k_ ≠ (.slice Ao31 l0.length co31 : Value).ownBlock) (fun _ => False) rfl rfl ?aO ?aR (fun _ _ h => h) (fun _ h => h.elim) ?aF ?aB ?aS ?aL ?_; (case aR => repeat (first | exact (by repeat (first | (with_reducible exact HR332.out) | (with_reducible refine Kd.C_alloc ?_ _) | (with_reducible refine Kd.C_drewN ?_ _) | (with_reducible refine Kd.C_drew ?_) | exact HR332.out)) | (with_reducible refine Kd.C_alloc ?_ _) | (with_reducible refine Kd.C_drewN ?_ _) | (with_reducible refine Kd.C_drew ?_))); (case aB => exact (Bl_ HB)); (case aF => exact (fun k_ hk => ⟨(.inr (Nat.le_trans (by first | exact HK.out.1 | exact (show Kept w _ (fun k_ => P0_ k_) from Kp_ HK).1) hk)), Kd.fresh' (Kd.R_lt (Rl_ HO_0.out)) k_ hk⟩)); (case aO => exact (Rl_ HO328.out)); (case aS => exact (below_size (Bl_ HB))); (case aL => have := LMc30.out; omega); intro v334 w38 ho hb hg hat; rw [← Ny333.out] at ho; replace HB := a_ (hb); replace HK := a_ (Kept.of_grown (S := (fun k_ => P0_ k_)) hg (Kp_ HK) (fun k_ e_ => (HO328.out.1 k_ e_).1)); replace HR322 := a_ ((show Kd.C (Kd.int .i64) w38 Ao31 y319.length y319 from by rw [Ny319.out]; exact Kd.C_take (m := (x5_1 : Int).toNat) ((Kd.R_reads' (Kd.R_after (ok := (fun k_ => (P0_ k_ ∨ w.heap.size ≤ k_))) (Rl_ HO_0.out) hg hat)).2.2) KL34.out)); replace HR332 := a_ ((show Kd.C (Kd.int .i64) w38 A37 y329.length y329 from by rw [Ny329.out, KA37.out]; exact Kd.C_drop (m := (x5_1 : Int).toNat) (c := co31) ((Kd.R_reads' (Kd.R_after (ok := (fun k_ => (P0_ k_ ∨ w.heap.size ≤ k_))) (Rl_ HO_0.out) hg hat)).2.2) KL37.out ((Kd.R_reads' (Kd.R_after (ok := (fun k_ => (P0_ k_ ∨ w.heap.size ≤ k_))) (Rl_ HO_0.out) hg hat)).2.1))); replace HO_0 := a_ (Kd.R_after (ok := (fun k_ => (P0_ k_ ∨ w.heap.size ≤ k_))) (Rl_ HO_0.out) hg hat); have HO335 := a_ (ho); clear HO328; clear ho hb hg hat))
    go_ret;exact ⟨_, re_, Rl_ (Kd.R_mono HO335.out (fun _ hk => hk.1)), Bl_ HB, Kp_ HK⟩
   have c3b0 := decide_eq_true c3;clear c3;obtain ⟨c4b0, H⟩ := ic_ H;rcases ij_ H with ⟨c5, H⟩ | ⟨c5, H⟩
   ·have c5b0 := decide_eq_true c5;clear c5;have H' := a_ H;clear H;obtain ⟨Ao6, co6, eo6⟩ := Kd.R_slice HO_0.out;subst eo6;obtain ⟨ad294, e294, hx294_0, p294, q294⟩ := ai_ (Kd.R_reads' HO_0.out).2.2 x5_1
    cases e294;go_wp2;go_roundg k1
    case measure => have := HK1.out; omega
    case rel => exact ⟨(wrap64 (x5_1 + 1)), rs_, H', ⟨by have := HK1.out; omega⟩, ⟨Rl_ HO_0.out⟩, ⟨Kp_ HK⟩, ⟨Bl_ HB⟩⟩
   have c5b0 := decide_eq_false c5;clear c5;rcases ij_ H with ⟨c7, H⟩ | ⟨c7, H⟩
   ·obtain ⟨c7b0, c7b1⟩ := qt_ c7;clear c7;obtain rfl := s1_ H;obtain ⟨Ao8, co8, eo8⟩ := Kd.R_slice HO_0.out;subst eo8;obtain ⟨ad294, e294, hx294_0, p294, q294⟩ := ai_ (Kd.R_reads' HO_0.out).2.2 x5_1
    cases e294;obtain ⟨ad295, e295, hx295_0, p295, q295⟩ := ai_ (Kd.R_reads' HO_0.out).2.2 x5_1;obtain rfl : ad294 = ad295 := (by injection e295);go_wp2;go_ret;exact ⟨_, re_, Rl_ HO_0.out, Bl_ HB, Kp_ HK⟩
   obtain ⟨c7b0, c7b1⟩ := qf_ c7;(first | obtain ⟨y296, Ny296, H⟩ := ya_ (x := (([] : List Int))) H | (generalize hy_ : (([] : List Int)) = y296 at H;have Ny296 := a_ hy_.symm;clear hy_));have c9b0 := eq_true (od_ : 0 ≤ x5_1);obtain ⟨c10, H⟩ := in_ H;have c10b0 := eq_true c10;have c10b1 : decide (x5_1 ≤ (l0.length : Int)) = true := decide_eq_true c10;clear c10;(first | obtain ⟨y299, Ny299, H⟩ := ya_ (x := (l0.take (x5_1 : Int).toNat)) H | (generalize hy_ : (l0.take (x5_1 : Int).toNat) = y299 at H;have Ny299 := a_ hy_.symm;clear hy_));obtain ⟨LMc11, H⟩ := ia_ H;(first | obtain ⟨y303, Ny303, H⟩ := ya_ (x := (y296 ++ y299)) H | (generalize hy_ : (y296 ++ y299) = y303 at H;have Ny303 := a_ hy_.symm;clear hy_));obtain ⟨LMc12, H⟩ := ia_ H;(first | obtain ⟨y306, Ny306, H⟩ := ya_ (x := (y303 ++ [a1])) H | (generalize hy_ : (y303 ++ [a1]) = y306 at H;have Ny306 := a_ hy_.symm;clear hy_));have c13b0 := eq_true (od_ : 0 ≤ x5_1);have c14b0 := eq_true (od_ : x5_1 ≤ (l0.length : Int));(first | obtain ⟨y309, Ny309, H⟩ := ya_ (x := (l0.drop (x5_1 : Int).toNat)) H | (generalize hy_ : (l0.drop (x5_1 : Int).toNat) = y309 at H;have Ny309 := a_ hy_.symm;clear hy_));obtain ⟨LMc15, H⟩ := ia_ H;generalize hy_ : (y306 ++ y309) = y313 at H;have Ny313 := a_ hy_.symm;clear hy_;obtain rfl := s1_ H;obtain ⟨Ao16, co16, eo16⟩ := Kd.R_slice HO_0.out;subst eo16;have p294 : 0 ≤ (x5_1 : Int) := od_
   have q294 : x5_1 < (l0.length : Int) := od_;obtain ⟨ad294, e294, hx294_0⟩ := Kd.at_int (Kd.R_reads' HO_0.out).2.2 x5_1 p294 q294
   cases e294
   replace p294 := eq_true p294;replace q294 := eq_true q294;obtain ⟨ad295, e295, hx295_0, p295, q295⟩ := ai_ (Kd.R_reads' HO_0.out).2.2 x5_1;obtain rfl : ad294 = ad295 := (by injection e295)
   go_wp2_with (first | ((with_reducible refine gate_dst (N := 34) rfl ?_); refine Kd.R_lit (Kd.int .i64) _ 3 ?hg (N := 34) ?hd (xs := ([] : List Int)) (inner := []) (ok := fun _ => True) (okp := fun _ => True) ?hr ?hp (fun _ hk => hk) trivial (Below.refl _ _) (Nat.le_refl _) (by simp) ?_; (case hd => rfl); (case hg => rfl); (case hr => first | (go_simp; done) | (go_simp; rfl)); (case hp => exact (Reps.none _ _)); intro v297 w17 ho18 hb hg_ hnew_; clear hg_ hnew_; (first | rw [← Ny296.out] at ho18 | (simp only [Int.reduceToNat] at ho18; rw [← Ny296.out] at ho18)); have HO298 := a_ (Kd.R_lower (Kd.R_new' (Kd.R_newM (M := fun k_ => (P0_ k_ ∨ w.heap.size ≤ k_)) ho18 (by first | exact HK.out.1 | exact (show Kept w _ (fun k_ => P0_ k_) from Kp_ HK).1) (fun k_ h_ => .inr h_)) (Kd.R_lt (Rl_ HO_0.out))) (below_size (Bl_ HB))); replace HO_0 := a_ (Kd.R_elder' (Rl_ HO_0.out) (Kd.R_base ho18) hb); replace HK := a_ (Kept.below (S := (fun k_ => P0_ k_)) (Kp_ HK) hb); replace HB := Bs_ HB hb; clear hb ho18; have q19 : (x5_1 : Int) ≤ ((l0.length : Int) : Int) := od_; obtain ⟨i019, hi019, _, hsz19, _⟩ := info_parts info3; have hroom19 : l0.length ≤ co16 := (Kd.R_reads' HO_0.out).2.1; have hC19 : Kd.C (Kd.int .i64) _ (some ad294) l0.length l0 := (Kd.R_reads' HO_0.out).2.2; have hcut19 := cut_to (P := Tryz.prog) 24 3 .i64 Tryz.underlying24 hi019 (some ad294) l0.length co16 x5_1 (od_) q19 hroom19; have hr19 := Kd.C_take (m := (x5_1 : Int).toNat) hC19 (by omega); have hy19 : y299.length = (x5_1 : Int).toNat := (by rw [Ny299.out, List.length_take]; omega); rw [← Ny299.out] at hr19; rw [← hy19] at hcut19; have HR302 := a_ hr19; have HC302 := a_ (show y299.length ≤ co16 from by omega); clear hr19 hC19 hroom19 hi019 hsz19; have KY19 := a_ hy19; clear hy19; have KL19 := a_ (show (x5_1 : Int).toNat ≤ l0.length from by omega); replace q19 := eq_true q19) | ((with_reducible refine gate_builtin (b := .append) (xs := #[.tmp 34, .tmp 37]) rfl ?_); at_builtin; refine Kd.R_append_rows (Kd.int .i64) (w0 := w0) w0.heap.size rfl (.tmp 34) (.tmp 37) 24 3 (.int .i64 0) 8 rfl Tryz.underlying24 info3 rfl (by decide) (by omega) v297 y296 y299 _ _ _ (fun k_ => (P0_ k_ ∨ w.heap.size ≤ k_) ∧ some k_ ≠ (.slice (some ad294) l0.length co16 : Value).ownBlock) (fun _ => False) rfl rfl ?aO ?aR (fun _ _ h => h) (fun _ h => h.elim) ?aF ?aB ?aS ?aL ?_; (case aR => repeat (first | exact (by repeat (first | (with_reducible exact HR302.out) | (with_reducible refine Kd.C_alloc ?_ _) | (with_reducible refine Kd.C_drewN ?_ _) | (with_reducible refine Kd.C_drew ?_) | exact HR302.out)) | (with_reducible refine Kd.C_alloc ?_ _) | (with_reducible refine Kd.C_drewN ?_ _) | (with_reducible refine Kd.C_drew ?_))); (case aB => exact (Bl_ HB)); (case aF => exact (fun k_ hk => ⟨(.inr (Nat.le_trans (by first | exact HK.out.1 | exact (show Kept w _ (fun k_ => P0_ k_) from Kp_ HK).1) hk)), Kd.fresh' (Kd.R_lt (Rl_ HO_0.out)) k_ hk⟩)); (case aO => exact (Rl_ (Kd.R_mono HO298.out (fun _ hk => ⟨hk.1.1, hk.2⟩)))); (case aS => exact (below_size (Bl_ HB))); (case aL => have := LMc11.out; omega); intro v304 w20 ho hb hg hat; rw [← Ny303.out] at ho; replace HB := a_ (hb); replace HK := a_ (Kept.of_grown (S := (fun k_ => P0_ k_)) hg (Kp_ HK) (fun k_ e_ => (HO298.out.1 k_ e_).1.1)); replace HR302 := a_ ((show Kd.C (Kd.int .i64) w20 (some ad294) y299.length y299 from by rw [Ny299.out]; exact Kd.C_take (m := (x5_1 : Int).toNat) ((Kd.R_reads' (Kd.R_after (ok := (fun k_ => (P0_ k_ ∨ w.heap.size ≤ k_))) (Rl_ HO_0.out) hg hat)).2.2) KL19.out)); replace HO_0 := a_ (Kd.R_after (ok := (fun k_ => (P0_ k_ ∨ w.heap.size ≤ k_))) (Rl_ HO_0.out) hg hat); have HO305 := a_ (ho); clear HO298; clear ho hb hg hat) | ((with_reducible refine gate_builtin (b := .append) (xs := #[.tmp 39, .tmp 41]) rfl ?_); at_builtin; refine Kd.R_append (Kd.int .i64) (w0 := w0) w0.heap.size rfl (.tmp 39) (.tmp 41) 24 3 (.int .i64 0) 8 rfl Tryz.underlying24 info3 rfl (by decide) (by omega) v304 y303 a1 [.int .i64 a1] (fun k_ => (P0_ k_ ∨ w.heap.size ≤ k_) ∧ some k_ ≠ (.slice (some ad294) l0.length co16 : Value).ownBlock) (fun _ => False) rfl rfl ?aP (fun _ hk => hk.elim) ?aF ?aO ?aB ?aS ?aL ?_; (case aP => exact rfl); (case aB => exact (Bl_ HB)); (case aF => exact (fun k_ hk => ⟨(.inr (Nat.le_trans (by first | exact HK.out.1 | exact (show Kept w _ (fun k_ => P0_ k_) from Kp_ HK).1) hk)), Kd.fresh' (Kd.R_lt (Rl_ HO_0.out)) k_ hk⟩)); (case aO => exact (Rl_ HO305.out)); (case aS => exact (below_size (Bl_ HB))); (case aL => have := LMc12.out; omega); intro v307 w21 ho hb hg hat; rw [← Ny306.out] at ho; replace HB := a_ (hb); replace HK := a_ (Kept.of_grown (S := (fun k_ => P0_ k_)) hg (Kp_ HK) (fun k_ e_ => (HO305.out.1 k_ e_).1)); replace HR302 := a_ ((show Kd.C (Kd.int .i64) w21 (some ad294) y299.length y299 from by rw [Ny299.out]; exact Kd.C_take (m := (x5_1 : Int).toNat) ((Kd.R_reads' (Kd.R_after (ok := (fun k_ => (P0_ k_ ∨ w.heap.size ≤ k_))) (Rl_ HO_0.out) hg hat)).2.2) KL19.out)); replace HO_0 := a_ (Kd.R_after (ok := (fun k_ => (P0_ k_ ∨ w.heap.size ≤ k_))) (Rl_ HO_0.out) hg hat); have HO308 := a_ (ho); clear HO305; clear ho hb hg hat; have q22 : (x5_1 : Int) ≤ ((l0.length : Int) : Int) := od_; obtain ⟨i022, hi022, _, hsz22, _⟩ := info_parts info3; have hroom22 : l0.length ≤ co16 := (Kd.R_reads' HO_0.out).2.1; have hC22 : Kd.C (Kd.int .i64) _ (some ad294) l0.length l0 := (Kd.R_reads' HO_0.out).2.2; have q022 : (0 : Int) ≤ (x5_1 : Int) := od_; have hcut22 := cut_from (P := Tryz.prog) 24 3 .i64 Tryz.underlying24 hi022 1 hsz22 (some ad294) l0.length co16 x5_1 q022 q22; have hr22 := Kd.C_drop (m := (x5_1 : Int).toNat) (c := co16) hC22 (by omega) hroom22; obtain ⟨A22, hA22⟩ : ∃ A1, A1 = (if co16 = (x5_1 : Int).toNat then (some ad294) else ((some ad294) : Option Addr).map (·.add ((x5_1 : Int).toNat * 1))) := ⟨_, rfl⟩; obtain ⟨c22, hc22⟩ : ∃ c1, c1 = co16 - (x5_1 : Int).toNat := ⟨_, rfl⟩; have hy22 : y309.length = l0.length - (x5_1 : Int).toNat := (by rw [Ny309.out, List.length_drop] <;> omega); rw [show (l0).drop (x5_1 : Int).toNat = y309 from Ny309.out.symm] at hr22; replace hr22 : Kd.C (Kd.int .i64) _ A22 y309.length y309 := (by rw [hA22]; exact hr22); rw [← hy22, ← hA22, ← hc22] at hcut22; have HR312 := a_ hr22; have HC312 := a_ (show y309.length ≤ c22 from by rw [hy22, hc22]; exact Nat.sub_le_sub_right hroom22 _); clear hr22 hC22 hroom22 hi022 hsz22 hc22; have KY22 := a_ hy22; have KA22 := a_ hA22; clear hy22 hA22; have KL22 := a_ (show (x5_1 : Int).toNat ≤ l0.length from by omega); replace q22 := eq_true q22) | ((with_reducible refine gate_builtin (b := .append) (xs := #[.tmp 43, .tmp 46]) rfl ?_); at_builtin; refine Kd.R_append_rows (Kd.int .i64) (w0 := w0) w0.heap.size rfl (.tmp 43) (.tmp 46) 24 3 (.int .i64 0) 8 rfl Tryz.underlying24 info3 rfl (by decide) (by omega) v307 y306 y309 _ _ _ (fun k_ => (P0_ k_ ∨ w.heap.size ≤ k_) ∧ some k_ ≠ (.slice (some ad294) l0.length co16 : Value).ownBlock) (fun _ => False) rfl rfl ?aO ?aR (fun _ _ h => h) (fun _ h => h.elim) ?aF ?aB ?aS ?aL ?_; (case aR => repeat (first | exact (by repeat (first | (with_reducible exact HR312.out) | (with_reducible refine Kd.C_alloc ?_ _) | (with_reducible refine Kd.C_drewN ?_ _) | (with_reducible refine Kd.C_drew ?_) | exact HR312.out)) | (with_reducible refine Kd.C_alloc ?_ _) | (with_reducible refine Kd.C_drewN ?_ _) | (with_reducible refine Kd.C_drew ?_))); (case aB => exact (Bl_ HB)); (case aF => exact (fun k_ hk => ⟨(.inr (Nat.le_trans (by first | exact HK.out.1 | exact (show Kept w _ (fun k_ => P0_ k_) from Kp_ HK).1) hk)), Kd.fresh' (Kd.R_lt (Rl_ HO_0.out)) k_ hk⟩)); (case aO => exact (Rl_ HO308.out)); (case aS => exact (below_size (Bl_ HB))); (case aL => have := LMc15.out; omega); intro v314 w23 ho hb hg hat; rw [← Ny313.out] at ho; replace HB := a_ (hb); replace HK := a_ (Kept.of_grown (S := (fun k_ => P0_ k_)) hg (Kp_ HK) (fun k_ e_ => (HO308.out.1 k_ e_).1)); replace HR302 := a_ ((show Kd.C (Kd.int .i64) w23 (some ad294) y299.length y299 from by rw [Ny299.out]; exact Kd.C_take (m := (x5_1 : Int).toNat) ((Kd.R_reads' (Kd.R_after (ok := (fun k_ => (P0_ k_ ∨ w.heap.size ≤ k_))) (Rl_ HO_0.out) hg hat)).2.2) KL19.out)); replace HR312 := a_ ((show Kd.C (Kd.int .i64) w23 A22 y309.length y309 from by rw [Ny309.out, KA22.out]; exact Kd.C_drop (m := (x5_1 : Int).toNat) (c := co16) ((Kd.R_reads' (Kd.R_after (ok := (fun k_ => (P0_ k_ ∨ w.heap.size ≤ k_))) (Rl_ HO_0.out) hg hat)).2.2) KL22.out ((Kd.R_reads' (Kd.R_after (ok := (fun k_ => (P0_ k_ ∨ w.heap.size ≤ k_))) (Rl_ HO_0.out) hg hat)).2.1))); replace HO_0 := a_ (Kd.R_after (ok := (fun k_ => (P0_ k_ ∨ w.heap.size ≤ k_))) (Rl_ HO_0.out) hg hat); have HO315 := a_ (ho); clear HO308; clear ho hb hg hat))
   go_ret;exact ⟨_, re_, Rl_ (Kd.R_mono HO315.out (fun _ hk => hk.1)), Bl_ HB, Kp_ HK⟩

/-! ### spec_lvOf: function 36 -/
theorem wrap_inL {i : Int} (h0 : -9223372036854775808 ≤ i) (h : i ≤ 9223372036854775807) : wrap64 i = i := by unfold wrap64; omega
def mostV (a b : Int) : Int := if a > b then a else b
def lvoOut (out : List (List Int)) (t : Nat) : List (List Int) := if t = out.length then out ++ [[]] else out
def lvoGo (k : Nat) : List Int → List Int → List (List Int) → Option (List (List Int))
  | [], _, out => some out
  | x :: xs, free, out => if 0 ≤ x ∧ x + 1 < (free.length : Int) then
      (if 0 ≤ mostV (free.getD x.toNat 0) (free.getD (x.toNat + 1) 0) ∧ mostV (free.getD x.toNat 0) (free.getD (x.toNat + 1) 0) ≤ (out.length : Int) then
        (spec_l1Put.f k ((lvoOut out (mostV (free.getD x.toNat 0) (free.getD (x.toNat + 1) 0)).toNat).getD (mostV (free.getD x.toNat 0) (free.getD (x.toNat + 1) 0)).toNat []) x).bind fun y =>
          lvoGo k xs ((free.set x.toNat (mostV (free.getD x.toNat 0) (free.getD (x.toNat + 1) 0) + 1)).set (x.toNat + 1) (mostV (free.getD x.toNat 0) (free.getD (x.toNat + 1) 0) + 1)) ((lvoOut out (mostV (free.getD x.toNat 0) (free.getD (x.toNat + 1) 0)).toNat).set (mostV (free.getD x.toNat 0) (free.getD (x.toNat + 1) 0)).toNat y)
      else none) else none
theorem lvoGo_mono (k : Nat) : ∀ xs free out, LeO (lvoGo k xs free out) (lvoGo (k + 1) xs free out)
  | [], _, _ => LeO.refl _
  | _ :: xs, _, _ => LeO.ite (LeO.ite (LeO.bind (spec_l1Put.mono _ _ _) fun _ => lvoGo_mono k xs _ _) (LeO.refl _)) (LeO.refl _)
def spec_lvOf.f (k : Nat) (a : Int) (l0 : List Int) : Option (List (List Int)) := if 0 ≤ a ∧ a ≤ 1000 ∧ l0.length ≤ 1000 then lvoGo k l0 (List.replicate a.toNat 0) [] else none
theorem spec_lvOf.mono : ∀ a0 a1 k, LeO (spec_lvOf.f k a0 a1) (spec_lvOf.f (k + 1) a0 a1) := fun _ _ k => LeO.ite (lvoGo_mono k _ _ _) (LeO.refl _)
theorem lvInfo2 : (Tryz.prog.info? 24).map (fun i => (i.zero, i.size, i.bytes)) = some (some (.slice none 0 0), 1, 24) := by kernel_rfl
theorem cellH2 {w w1 : World} {g i : Nat} (h : w1.heap[g]? = w.heap[g]?) : w1.cell? ⟨g, i, none⟩ = w.cell? ⟨g, i, none⟩ := by simp [World.cell?, h]
theorem frozenH2 {w w1 : World} {g i : Nat} (h : w1.heap[g]? = w.heap[g]?) : w1.frozen? ⟨g, i, none⟩ = w.frozen? ⟨g, i, none⟩ := by simp [World.frozen?, h]
theorem madeL_one (z : Value) (hz : z.cells = #[z]) (m : Nat) : (madeCells z.cells (m * 1)) = (List.replicate m z).toArray := by
  apply Array.ext
  · simp [size_madeCells]
  · intro i h1 h2
    simp [madeCells, hz, Nat.mod_one]
theorem makeL_run {P : Program} (W : World) (t e : TypeId) (z : Value) (bytes : Nat) (N : Nat) (ht : P.underlying t = some (.slice e)) (hinfo : (P.info? e).map (fun i => (i.zero, i.size, i.bytes)) = some (some z, 1, bytes)) (hz : z.cells = #[z]) (hb : bytes * N ≤ 281474976710656) (hN : N ≤ 9223372036854775807) :
    (Instr.makeSlice t (.int .i64 (N : Int)) (.int .i64 (N : Int))).run P W = .ok (.slice (some ⟨W.heap.size, 0, none⟩) N N) (W.alloc (.cells (List.replicate N z).toArray e (0, 0))) := by
  obtain ⟨i0, hi, hzz⟩ := Option.map_eq_some_iff.1 hinfo
  simp only [Prod.mk.injEq] at hzz
  obtain ⟨hz0, hz1, hz2⟩ := hzz
  have h4 : (i0.bytes : Int) * (N : Int) ≤ 281474976710656 := by
    have h3 : ((i0.bytes * N : Nat) : Int) ≤ 281474976710656 := by rw [hz2]; omega
    rwa [Int.natCast_mul] at h3
  have hr := run_make (P := P) W t e i0 z ht hi hz0 .i64 .i64 (N : Int) (N : Int) (by omega) (by omega) h4 (by omega)
  simp only [Int.toNat_natCast] at hr
  rw [hz1, madeL_one z hz] at hr
  exact hr
/-- the row 'free' in memory -/
def FreeB (gf NN : Nat) (free : List Int) (w : World) : Prop := w.heap[gf]? = some (.cells (free.map (Value.int .i64)).toArray 3 (0, 0)) ∧ free.length = NN
theorem FreeB.at {gf NN : Nat} {free : List Int} {w : World} (h : FreeB gf NN free w) (i : Nat) (hi : i < NN) : w.cell? ⟨gf, i, none⟩ = some (.int .i64 (free.getD i 0)) := by
  have hl := h.2
  rw [blk_cell h.1 i, List.getElem?_toArray, List.getElem?_map, List.getD_eq_getElem?_getD, List.getElem?_eq_getElem (by omega)]; rfl
theorem FreeB.put {gf NN : Nat} {free : List Int} {w : World} (h : FreeB gf NN free w) (i : Nat) (x : Int) : FreeB gf NN (free.set i x) (w.setCell ⟨gf, i, none⟩ (.int .i64 x)) :=
  ⟨blk_put h.1 i _ (by simp [List.map_set]), by rw [List.length_set]; exact h.2⟩
/-- the element put back behind it was worked out anew -/
theorem lvo_store {W w6 : World} {base go cap t gf : Nat} {oki : Nat → Prop} {vt : Value} {Av : Option Addr} {cv : Nat} {O2 : List (List Int)} {Y : List Int} (hH : Kd.H (Kd.slice 3 (Kd.int .i64)) 24 w6 base (fun k_ => k_ ≠ gf ∧ ¬ (W.heap.size ≤ k_)) (.slice (some ⟨go, 0, none⟩) O2.length cap) O2 (t : Int) oki [vt])
    (hR : Kd.R (Kd.int .i64) 3 w6 base (fun k_ => oki k_ ∨ W.heap.size ≤ k_) (.slice Av Y.length cv) Y) (hog : ∀ k_, oki k_ → k_ ≠ go) (ht : t < O2.length) (hgo : go < W.heap.size) (hgf : gf ≤ W.heap.size) (hgf2 : gf < W.heap.size) :
    Kd.S (Kd.slice 3 (Kd.int .i64)) 24 (w6.setCell ⟨go, t, none⟩ (.slice Av Y.length cv)) base (fun k_ => k_ ≠ gf) (.slice (some ⟨go, 0, none⟩) O2.length cap) (O2.set t Y) := by
  obtain ⟨hS2, _⟩ := Kd.S_seg (okg := fun k_ => W.heap.size ≤ k_) (okp := fun k_ => oki k_ ∨ W.heap.size ≤ k_) (ok := fun k_ => k_ ≠ gf) (seg := [(.slice Av Y.length cv)]) (j := 0) (x' := Y) hH (Int.natCast_nonneg t) (Int.ofNat_lt.2 ht) (by simp [Kd.slice]) ⟨.slice Av Y.length cv, by simp [Kd.slice], hR⟩ (fun k_ h_ => h_) (fun k_ h_ => ⟨by omega, by omega⟩)
  rw [show ((t : Int)).toNat = t from rfl] at hS2
  simpa [Kd.slice, World.setCells] using hS2
theorem spec_lvOf.calls (k : Nat) (a0 : Int) (A1 : Option Addr) (c1 : Nat) (l1 : List Int) (r : List (List Int)) (w : World) (hr1 : Kd.C (Kd.int .i64) w A1 l1.length l1) (hc1 : l1.length ≤ c1) (h : spec_lvOf.f k a0 l1 = some r) :
 Calls Tryz.prog 36 #[.int .i64 a0, .slice A1 l1.length c1] w fun e w' => ∃ v0_ : Value, e = .returned v0_ ∧ Kd.S (Kd.slice 3 (Kd.int .i64)) 24 w' w.heap.size (fun _ => True) v0_ r ∧ Below w.heap.size w w' := by
 unfold spec_lvOf.f at h;by_cases hn : 0 ≤ a0 ∧ a0 ≤ 1000 ∧ l1.length ≤ 1000
 case neg => rw [if_neg hn] at h; cases h
 rw [if_pos hn] at h;obtain ⟨NN, rfl⟩ : ∃ NN : Nat, a0 = NN := ⟨a0.toNat, by omega⟩;rw [show ((NN : Int)).toNat = NN from rfl] at h;have HR := a_ hr1;have HC := a_ hc1;have HN := Lib.hid hn.2.2;have HNN := Lib.hid (show NN ≤ 1000 by omega);have HB := a_ (Below.refl w.heap.size w);have HGO := a_ h;have hmk := makeL_run (P := Tryz.prog) w 24 3 (.int .i64 0) 8 NN Tryz.underlying24 info3 rfl (by omega) (by omega);clear hr1 hc1 h hn;go_enter Tryz.func36, Tryz.ntmps36;go_wp2;go_loopg [5, 14] l1.length (fun gg v5 v14 wr => ∃ (d i : Nat) (free : List Int) (out : List (List Int)), d ≤ gg ∧ i + d = l1.length ∧ v14 = .int .i64 (i : Int) ∧ Aside0 (lvoGo k (l1.drop i) free out = some r) ∧ Aside0 (out.length ≤ i) ∧ Aside0 (FreeB w.heap.size NN free wr) ∧ Aside0 (Kd.S (Kd.slice 3 (Kd.int .i64)) 24 wr w.heap.size (fun k_ => k_ ≠ w.heap.size) v5 out) ∧ Aside0 (Below w.heap.size w wr))
 case atStart => exact ⟨l1.length, 0, List.replicate NN 0, [], Nat.le_refl _, Nat.zero_add _, rfl, HGO, ⟨Nat.le_refl _⟩, ⟨⟨(blk_new w _).trans (by simp), List.length_replicate⟩⟩, ⟨Kd.S_nil _ _ _ _ _⟩, ⟨below_alloc HB.out _⟩⟩
 case round =>
  clear HB HGO hmk;obtain ⟨d, i, free, out, hgg, hid, rfl, HGO, HL, HF, HO, HB⟩ := hrel;have hgo := HGO.out
  cases d with
  | zero =>
   have d1 : decide (i < l1.length) = false := decide_eq_false (by omega);rw [List.drop_eq_nil_of_le (by omega), lvoGo] at hgo;injection hgo with hgo;subst hgo;clear hgg hid HGO;go_wp2;go_ret;exact ⟨_, rfl, Kd.S_mono HO.out (fun _ _ => trivial), HB.out⟩
  | succ d =>
   have hlt : i < l1.length := by omega
   have d1 : decide (i < l1.length) = true := decide_eq_true hlt
   have p1 : 0 ≤ ((i : Nat) : Int) := by omega
   have q1 : ((i : Nat) : Int) < (l1.length : Int) := by omega
   obtain ⟨ad1, e1, hx1_0⟩ := Kd.at_int HR.out (i : Int) p1 q1
   cases e1
   obtain ⟨x, hx⟩ : ∃ x, l1[i] = x := ⟨_, rfl⟩
   have hrd : rd l1 (i : Int) = x := by rw [← hx]; unfold rd; simp [hlt]
   rw [hrd, show ((i : Int)).toNat = i from rfl] at hx1_0;replace hx1_0 := (HB.out.cell (World.block_lt_of_cell? w _ hx1_0)).trans hx1_0;rw [List.drop_eq_getElem_cons hlt, hx, lvoGo] at hgo;by_cases hc : 0 ≤ x ∧ x + 1 < (free.length : Int)
   case neg => rw [if_neg hc] at hgo; cases hgo
   rw [if_pos hc] at hgo;obtain ⟨xn, rfl⟩ : ∃ xn : Nat, x = xn := ⟨x.toNat, by omega⟩;rw [show ((xn : Int)).toNat = xn from rfl] at hgo;obtain ⟨fa, hfa⟩ : ∃ fa, fa = free.getD xn 0 := ⟨_, rfl⟩;obtain ⟨fb, hfb⟩ : ∃ fb, fb = free.getD (xn + 1) 0 := ⟨_, rfl⟩;rw [← hfa, ← hfb] at hgo;by_cases hm : 0 ≤ mostV fa fb ∧ mostV fa fb ≤ (out.length : Int)
   case neg => rw [if_neg hm] at hgo; cases hgo
   rw [if_pos hm] at hgo;obtain ⟨t, ht⟩ : ∃ t : Nat, mostV fa fb = t := ⟨(mostV fa fb).toNat, by omega⟩;rw [ht, show ((t : Int)).toNat = t from rfl] at hgo;replace hgo := Option.bind_eq_some_iff.mp hgo;obtain ⟨Y, hY, hgo⟩ := hgo;have hfl := HF.out.2
   have hx1 : xn + 1 < NN := by omega
   have hc0 := HF.out.at xn (by omega);have hc1 := HF.out.at (xn + 1) hx1;rw [← hfa] at hc0;rw [← hfb] at hc1
   have htl : t ≤ out.length := by rw [ht] at hm; omega
   have hil := HL.out;have hnl := HN.out;have hnn := HNN.out;have HMV := a_ (show spec_l1Most.f fa fb = some (t : Int) by rw [← ht]; unfold spec_l1Most.f mostV; split <;> rfl);have HY := a_ hY;have HGO2 := a_ hgo;have HGG := Lib.hid hgg;have HID := Lib.hid hid;have HTL := Lib.hid htl;have HXN := Lib.hid hx1;have HC0 := a_ hc0;have HC1 := a_ hc1;have HFA := a_ hfa;have HFB := a_ hfb;have HWI := Lib.hid (show wrap64 ((i : Int) + 1) = ((i + 1 : Nat) : Int) by unfold wrap64; omega);have HIL := Lib.hid hlt
   have p2 : 0 ≤ ((xn : Nat) : Int) := by omega
   have q2 : ((xn : Nat) : Int) < (NN : Int) := by omega
   have p3 : 0 ≤ ((xn : Nat) : Int) + 1 := by omega
   have q3 : ((xn : Nat) : Int) + 1 < (NN : Int) := by omega
   have hex : -9223372036854775808 ≤ (xn : Int) + 1 ∧ (xn : Int) + 1 ≤ 9223372036854775807 := by omega
   have hew : -9223372036854775808 ≤ (t : Int) + 1 ∧ (t : Int) + 1 ≤ 9223372036854775807 := by omega
   replace p1 := eq_true p1;replace q1 := eq_true q1;replace p2 := eq_true p2;replace q2 := eq_true q2;replace p3 := eq_true p3;replace q3 := eq_true q3;have ex : wrap64 ((xn : Int) + 1) = (xn : Int) + 1 := wrap_inL hex.1 hex.2;have ew1 : wrap64 ((t : Int) + 1) = (t : Int) + 1 := wrap_inL hew.1 hew.2;clear hex hew hfa hfb hm ht hY hgo hfl hx1 hc0 hc1 htl hil hnl hnn hc hx hrd hlt hgg hid HGO;go_wp2;have HF2 := a_ (show FreeB w.heap.size NN free wr.drew from HF.out);have HO2 := a_ (Kd.S_drew HO.out);have HB2 := a_ (below_drew1 HB.out);have hC0 := a_ (show wr.drew.cell? ⟨w.heap.size, xn, none⟩ = some (.int .i64 fa) from HC0.out);have hC1 := a_ (show wr.drew.cell? ⟨w.heap.size, xn + 1, none⟩ = some (.int .i64 fb) from HC1.out);clear HF HO HB HC0 HC1 hx1_0;refine start_ (n := 11) (S := fun w' => w'.cell? ⟨w.heap.size, xn, none⟩ = some (.int .i64 fa) ∧ w'.cell? ⟨w.heap.size, xn + 1, none⟩ = some (.int .i64 fb)) (ds := []) (fl_ 11 0) (by kernel_rfl) rfl rfl ⟨hC0.out, hC1.out⟩ (fun hHeld => ?_);generalize wr.drew = w3 at HF2 HO2 HB2 hC0 hC1 hHeld ⊢;refine pu_ 0 (some 18) (fl_ 11 1) ?_;refine pu_ 1 (some 19) (fl_ 11 2) ?_;refine pu_ 2 (some 20) (fl_ 11 3) ?_;refine tk_ 3 (some 21) (fl_ 11 4) hHeld ?_;refine pu_ 4 (some 22) (fl_ 11 5) ?_;refine pu_ 5 (some 23) (fl_ 11 6) ?_;refine pu_ 6 (some 24) (fl_ 11 7) ?_;refine pu_ 7 (some 25) (fl_ 11 8) ?_;refine tk_ 8 (some 26) (fl_ 11 9) hHeld ?_;refine one_ (i := 9) (N := some 27) (fl_ 11 10) rfl rfl (by kernel_rfl) (by decide) (fun K hK => ?_);refine goes_ Tryz.func37 (by kernel_rfl) rfl #[.int .i64 fa, .int .i64 fb] (by rfl) rfl rfl (by (try simp only [List.map_toArray, List.map_cons, List.map_nil]); first | done | rfl | (simp only [List.length_drop, List.length_take]; rfl)) ?_;(with_reducible refine (spec_l1Most.calls fa fb (t : Int) _ HMV.out).mono ?_);rintro e w4 ⟨rfl, ⟨q4, rfl⟩⟩;refine ⟨_, rfl, ?_⟩;refine hK.out _ _ ⟨hC0.out, hC1.out⟩ (fun hHeld => ?_);clear hK K
   refine norm_ (a' := ?_) ?_ ?_;rotate_left
   ·show Act.put _ (some 27) _ = _;simp only [Act.put, List.setIfInBounds_toArray, List.set_cons_zero, List.set_cons_succ, i64_w, i32_w];rfl
   refine pu_ 10 (some 9) (fl_ 11 11) ?_;refine done_ (by kernel_rfl) ?_;clear hHeld;have HF := a_ (show FreeB w.heap.size NN free (w3.drewN q4) from HF2.out);have HO := a_ (Kd.S_drewN HO2.out q4);have HB := a_ (pw_below_drewN HB2.out q4);clear HF2 HO2 HB2;generalize w3.drewN q4 = w5 at HF HO HB ⊢;obtain ⟨Ao, co, eo⟩ := Kd.S_slice HO.out;subst eo;by_cases hE : t = out.length
   ·have e1 : (t == out.length) = true := by simp [hE]
    have e2 : ((t : Int) == (out.length : Int)) = true := by simp [hE]
    obtain ⟨O2, hO2⟩ : ∃ O, O = out ++ [[]] := ⟨_, rfl⟩;have HO2 := a_ hO2;have HOO := a_ (show lvoOut out t = O2 by unfold lvoOut; rw [if_pos hE, hO2]);have HTO := Lib.hid (show t < O2.length by rw [hO2, hE]; simp);have HOL := Lib.hid (show O2.length ≤ out.length + 1 by rw [hO2]; simp);have HGO3 := HGO2;rw [HOO.out] at HGO3;clear hE hO2
    go_wp2_with (first | ((with_reducible refine gate_builtin (b := .append) (xs := #[.tmp 32, .tmp 33]) rfl ?_); at_builtin; refine Kd.S_append (Kd.slice 3 (Kd.int .i64)) (w0 := w) w.heap.size rfl (.tmp 32) (.tmp 33) 28 24 (.slice none 0 0) 24 rfl Tryz.underlying28 lvInfo2 rfl (by decide) (by omega) (.slice Ao out.length co) out [] [.slice none 0 0] (fun k_ => k_ ≠ w.heap.size) (fun _ => False) rfl rfl ?aP (fun _ hk => hk.elim) ?aF ?aO ?aB ?aS ?aL ?_; (case aP => exact ⟨_, rfl, Kd.R_nil _ _ _ _ _⟩); (case aB => exact HB.out); (case aF => exact (fun k_ hk => Nat.ne_of_gt (Nat.lt_of_lt_of_le (blk_lt HF.out.1) hk))); (case aO => exact Kd.S_mono HO.out (fun k_ h_ => ⟨h_, fun h => h⟩)); (case aS => exact HB.out.size); (case aL => exact (by have := HN.out; have := HL.out; have := HIL.out; omega)); intro v2 wA ho hb hg hat; have n0_ := a_ (show Kd.S (Kd.slice 3 (Kd.int .i64)) 24 wA w.heap.size (fun k_ => k_ ≠ w.heap.size) v2 O2 by rw [HO2.out]; exact ho); have n1_ := a_ hb; have n2_ := a_ (show FreeB w.heap.size NN free wA from ⟨blk_grown HF.out.1 hg (fun e_ => ((Kd.S_R HO.out).1 _ e_.symm) rfl), HF.out.2⟩); clear HO HB HF ho hb hg hat; have HO := n0_; have HB := n1_; have HF := n2_; clear n0_ n1_ n2_; obtain ⟨go, cap, ev, _, _, _⟩ := Kd.S_form HO.out (Nat.lt_of_le_of_lt (Nat.zero_le _) HTO.out); subst ev; have hgne := (Kd.S_R HO.out).1 go (by simp [Value.ownBlock]); have hOb := Kd.S_mono (Kd.S_bound HO.out) (fun k_ h_ => (⟨h_.1, Nat.not_le.2 h_.2.2.1⟩ : k_ ≠ w.heap.size ∧ ¬ (wA.heap.size ≤ k_))); have htO := HTO.out; obtain ⟨oki, c, hcl, hM, hcc, hfr, hoki, hH⟩ := Kd.S_elem hOb [] (t : Int) (Int.natCast_nonneg t) (Int.ofNat_lt.2 htO); obtain ⟨vt, rfl, hRt⟩ := hM; have hvt : wA.cell? ⟨go, t, none⟩ = some vt := (by have h1 := hcc 0 vt rfl; rw [show ((t : Int)).toNat = t from rfl] at h1; simpa [Kd.slice] using h1); have hfz : wA.frozen? ⟨go, t, none⟩ = false := (by have h1 := hfr 0; rw [show ((t : Int)).toNat = t from rfl] at h1; simpa [Kd.slice] using h1); have HGO := Lib.hid ((Kd.S_lt HO.out) go (by simp [Value.ownBlock])); have HGF := Lib.hid (blk_lt HF.out.1); have HNE := Lib.hid hgne; have HOK := a_ hoki; obtain ⟨X, hX⟩ : ∃ X, X = O2.getD t [] := ⟨_, rfl⟩; rw [show ((t : Int)).toNat = t from rfl, ← hX] at hRt; have hYX := HY.out; rw [HOO.out, ← hX] at hYX; have HYX := a_ hYX; have HRT := a_ hRt; have HHH := a_ hH; have p4 : (0 ≤ ((t : Nat) : Int)) = True := eq_true (Int.natCast_nonneg t); have q4 : (((t : Nat) : Int) < ((O2.length : Nat) : Int)) = True := eq_true (Int.ofNat_lt.2 htO); clear hgne hOb hcl hcc hfr hoki hH hX hRt htO hYX HO) | ((with_reducible refine (spec_l1Put.calls k oki vt X (xn : Int) Y w _ HB.out HRT.out HYX.out).mono ?_); rintro e w6 ⟨v1_, rfl, ho, hb, hk⟩; obtain ⟨Av, cv, ev⟩ := Kd.R_slice ho; subst ev; have HS7 := a_ (lvo_store (Kd.H_step HHH.out (fun k_ _ hn hl => hk.2 k_ hl hn)) ho (fun k_ h_ => (HOK.out k_ h_).2) HTO.out HGO.out (Nat.le_of_lt HGF.out) HGF.out); have HB7 := a_ (below_set (j := t) (v := .slice Av Y.length cv) hb (Kd.S_base HS7.out go (by simp [Value.ownBlock]))); have hF6 : FreeB w.heap.size NN free w6 := ⟨(hk.2 _ HGF.out (fun h_ => (HOK.out _ h_).1.1 rfl)).trans HF.out.1, HF.out.2⟩; have hF7 : FreeB w.heap.size NN free (w6.setCell ⟨go, t, none⟩ (.slice Av Y.length cv)) := ⟨blk_far hF6.1 (p := ⟨go, t, none⟩) (fun e_ => HNE.out e_.symm) _, hF6.2⟩; have hcv : w6.cell? ⟨go, t, none⟩ = some vt := (cellH2 (hk.2 _ HGO.out (fun h_ => (HOK.out _ h_).2 rfl))).trans hvt; have hcz : w6.frozen? ⟨go, t, none⟩ = false := (frozenH2 (hk.2 _ HGO.out (fun h_ => (HOK.out _ h_).2 rfl))).trans hfz; have hc7 := hF7.at xn (Nat.lt_of_succ_lt HXN.out); have hz7 := blk_frozen hF7.1 xn; have hF8 := hF7.put xn ((t : Int) + 1); have hc8 := hF8.at (xn + 1) HXN.out; have hz8 := blk_frozen hF8.1 (xn + 1); have HF9 := a_ (hF8.put (xn + 1) ((t : Int) + 1)); clear hF6 hF7 hF8 hvt hfz ho hb hk HB HRT HHH))
    go_roundg d
    case measure => have := HGG.out; omega
    case rel => exact ⟨d, i + 1, _, _, Nat.le_refl _, by have := HID.out; omega, by rw [← HWI.out], HGO3, ⟨by rw [List.length_set]; have := HL.out; have := HTL.out; have := HOL.out; omega⟩, HF9, ⟨Kd.S_far (p := ⟨w.heap.size, xn + 1, none⟩) (Kd.S_far (p := ⟨w.heap.size, xn, none⟩) HS7.out (fun k_ h_ => h_) _) (fun k_ h_ => h_) _⟩, ⟨below_set (below_set HB7.out (Nat.le_refl _)) (Nat.le_refl _)⟩⟩
   ·have e1 : (t == out.length) = false := by simp [hE]
    have e2 : ((t : Int) == (out.length : Int)) = false := by
     have : ¬ (t : Int) = (out.length : Int) := fun h => hE (Int.ofNat.inj h)
     simp [this]
    have HOO := a_ (show lvoOut out t = out by unfold lvoOut; rw [if_neg hE]);have HTO := Lib.hid (show t < out.length from Nat.lt_of_le_of_ne HTL.out hE);have HOL := Lib.hid (Nat.le_succ out.length);have HGO3 := HGO2;rw [HOO.out] at HGO3;clear hE;obtain ⟨go, cap, ev, _, _, _⟩ := Kd.S_form HO.out (Nat.lt_of_le_of_lt (Nat.zero_le _) HTO.out);injection ev with ev1 ev2 ev3;subst ev1;obtain rfl : cap = co := ev3.symm;clear ev2;have hgne := (Kd.S_R HO.out).1 go (by simp [Value.ownBlock]);have hOb := Kd.S_mono (Kd.S_bound HO.out) (fun k_ h_ => (⟨h_.1, Nat.not_le.2 h_.2.2.1⟩ : k_ ≠ w.heap.size ∧ ¬ (w5.heap.size ≤ k_)));have htO := HTO.out;obtain ⟨oki, c, hcl, hM, hcc, hfr, hoki, hH⟩ := Kd.S_elem hOb [] (t : Int) (Int.natCast_nonneg t) (Int.ofNat_lt.2 htO);obtain ⟨vt, rfl, hRt⟩ := hM;have hvt : w5.cell? ⟨go, t, none⟩ = some vt := (by have h1 := hcc 0 vt rfl; rw [show ((t : Int)).toNat = t from rfl] at h1; simpa [Kd.slice] using h1);have hfz : w5.frozen? ⟨go, t, none⟩ = false := (by have h1 := hfr 0; rw [show ((t : Int)).toNat = t from rfl] at h1; simpa [Kd.slice] using h1);have HGO := Lib.hid ((Kd.S_lt HO.out) go (by simp [Value.ownBlock]));have HGF := Lib.hid (blk_lt HF.out.1);have HNE := Lib.hid hgne;have HOK := a_ hoki;obtain ⟨X, hX⟩ : ∃ X, X = out.getD t [] := ⟨_, rfl⟩;rw [show ((t : Int)).toNat = t from rfl, ← hX] at hRt;have hYX := HY.out;rw [HOO.out, ← hX] at hYX;have HYX := a_ hYX;have HRT := a_ hRt;have HHH := a_ hH;have p4 : (0 ≤ ((t : Nat) : Int)) = True := eq_true (Int.natCast_nonneg t);have q4 : (((t : Nat) : Int) < ((out.length : Nat) : Int)) = True := eq_true (Int.ofNat_lt.2 htO);clear hgne hOb hcl hcc hfr hoki hH hX hRt htO hYX HO
    go_wp2_with (first | ((with_reducible refine (spec_l1Put.calls k oki vt X (xn : Int) Y w _ HB.out HRT.out HYX.out).mono ?_); rintro e w6 ⟨v1_, rfl, ho, hb, hk⟩; obtain ⟨Av, cv, ev⟩ := Kd.R_slice ho; subst ev; have HS7 := a_ (lvo_store (Kd.H_step HHH.out (fun k_ _ hn hl => hk.2 k_ hl hn)) ho (fun k_ h_ => (HOK.out k_ h_).2) HTO.out HGO.out (Nat.le_of_lt HGF.out) HGF.out); have HB7 := a_ (below_set (j := t) (v := .slice Av Y.length cv) hb (Kd.S_base HS7.out go (by simp [Value.ownBlock]))); have hF6 : FreeB w.heap.size NN free w6 := ⟨(hk.2 _ HGF.out (fun h_ => (HOK.out _ h_).1.1 rfl)).trans HF.out.1, HF.out.2⟩; have hF7 : FreeB w.heap.size NN free (w6.setCell ⟨go, t, none⟩ (.slice Av Y.length cv)) := ⟨blk_far hF6.1 (p := ⟨go, t, none⟩) (fun e_ => HNE.out e_.symm) _, hF6.2⟩; have hcv : w6.cell? ⟨go, t, none⟩ = some vt := (cellH2 (hk.2 _ HGO.out (fun h_ => (HOK.out _ h_).2 rfl))).trans hvt; have hcz : w6.frozen? ⟨go, t, none⟩ = false := (frozenH2 (hk.2 _ HGO.out (fun h_ => (HOK.out _ h_).2 rfl))).trans hfz; have hc7 := hF7.at xn (Nat.lt_of_succ_lt HXN.out); have hz7 := blk_frozen hF7.1 xn; have hF8 := hF7.put xn ((t : Int) + 1); have hc8 := hF8.at (xn + 1) HXN.out; have hz8 := blk_frozen hF8.1 (xn + 1); have HF9 := a_ (hF8.put (xn + 1) ((t : Int) + 1)); clear hF6 hF7 hF8 hvt hfz ho hb hk HB HRT HHH));go_roundg d
    case measure => have := HGG.out; omega
    case rel => exact ⟨d, i + 1, _, _, Nat.le_refl _, by have := HID.out; omega, by rw [← HWI.out], HGO3, ⟨by rw [List.length_set]; have := HL.out; have := HTL.out; have := HOL.out; omega⟩, HF9, ⟨Kd.S_far (p := ⟨w.heap.size, xn + 1, none⟩) (Kd.S_far (p := ⟨w.heap.size, xn, none⟩) HS7.out (fun k_ h_ => h_) _) (fun k_ h_ => h_) _⟩, ⟨below_set (below_set HB7.out (Nat.le_refl _)) (Nat.le_refl _)⟩⟩


/-! ### spec_LevelsOf: function 7 -/
def spec_LevelsOf.f (k : Nat) (a0_0 : Int) (l0_1 : List Int) : Option ((List (List Int)) × Bool) := (spec_laGood.f k a0_0 l0_1).bind fun t337 => (if t337 = true then ((spec_lvOf.f k a0_0 l0_1).bind fun t338 => (some (t338, true))) else (some (([] : List (List Int)), false)))
theorem spec_LevelsOf.mono : ∀ a0 a1 k, LeO (spec_LevelsOf.f k a0 a1) (spec_LevelsOf.f (k + 1) a0 a1) := by
 intro a0 a1 k;unfold spec_LevelsOf.f;have m1 := @spec_laGood.mono;have m2 := @spec_lvOf.mono;exact mo_
theorem spec_LevelsOf.calls (k : Nat) (a0_0 : Int) (A0_1 : Option Addr) (c0_1 : Nat) (l0_1 : List Int) (r1 : List (List Int)) (r2 : Bool) (w : World) (hr0_1 : Kd.C (Kd.int .i64) w A0_1 l0_1.length l0_1) (hc0_1 : l0_1.length ≤ c0_1) (h : spec_LevelsOf.f k a0_0 l0_1 = some (r1, r2)) :
 Calls Tryz.prog 7 #[.agg #[.int .i64 a0_0, .slice A0_1 l0_1.length c0_1]] w fun e w' => ∃ v0_ : Value, e = .returned (.tuple #[v0_, .bool r2]) ∧ Kd.S (Kd.slice 3 (Kd.int .i64)) 24 w' w.heap.size (fun _ => True) v0_ r1 ∧ Below w.heap.size w w' := by
 have hu26 := Tryz.underlying26;have HR0_1 := a_ hr0_1;have HC0_1 := a_ hc0_1;clear hr0_1 hc0_1;have HB := a_ (Below.refl w.heap.size w);have H := h;unfold spec_LevelsOf.f at H;clear h;obtain ⟨t337, A2, H⟩ := ob_ H;(try dsimp only at H);replace H := bc_ H;rcases H with ⟨rfl, H⟩ | ⟨rfl, H⟩
 ·obtain ⟨rfl, rfl⟩ := s2_ H;go_enter Tryz.func7, Tryz.ntmps7;go_wp2_with (first | ((with_reducible refine gd_ 1 ?_);refine by_ #[.int .i64 a0_0, .slice A0_1 l0_1.length c0_1] 26 HB ?_;intro gb336 w10 BK336 GW336 HB; obtain ⟨hcz11_0, hcz11_1, hfz11_0, hfz11_1⟩ := cf2_ BK336) | ((with_reducible refine gc_ 35 ?_);refine gn_ (some 5) Tryz.func35 (spec_laGood.calls k a0_0 _ _ l0_1 false _ (Cl_ (Kd.C_below HR0_1.out HB.out)) HC0_1.out A2.out) rfl ?_;intro w12 hb; obtain ⟨BK336, HB⟩ := u1_ hb BK336 HB;clear hb));go_ret2;exact ⟨_, re_, by first | exact Kd.S_nil _ _ _ _ _ | exact Kd.N_nil _ _ _ _ _ | exact Kd.V_nil _ _ _ _ _ | exact Kd.Q_nil _ _ _ _ _ | exact Kd.R_nil _ _ _ _ _, Bl_ HB⟩
 obtain ⟨t338, A4, H⟩ := ob_ H;(try dsimp only at H);obtain ⟨rfl, rfl⟩ := s2_ H;go_enter Tryz.func7, Tryz.ntmps7;go_wp2_with (first | ((with_reducible refine gd_ 1 ?_);refine by_ #[.int .i64 a0_0, .slice A0_1 l0_1.length c0_1] 26 HB ?_;intro gb336 w5 BK336 GW336 HB; obtain ⟨hcz6_0, hcz6_1, hfz6_0, hfz6_1⟩ := cf2_ BK336) | ((with_reducible refine gc_ 35 ?_);refine gn_ (some 5) Tryz.func35 (spec_laGood.calls k a0_0 _ _ l0_1 true _ (Cl_ (Kd.C_below HR0_1.out HB.out)) HC0_1.out A2.out) rfl ?_;intro w7 hb; obtain ⟨BK336, HB⟩ := u1_ hb BK336 HB;clear hb; obtain ⟨hcz8_0, hcz8_1, hfz8_0, hfz8_1⟩ := cf2_ BK336) | ((with_reducible refine gc_ 36 ?_);refine gx_ (some 11) Tryz.func36 (spec_lvOf.calls k a0_0 _ _ l0_1 t338 _ (Cl_ (Kd.C_below HR0_1.out HB.out)) HC0_1.out A4.out) rfl ?_;rintro v339 w9 ⟨ho0, hb⟩; have HO340 := a_ (Kd.S_lower ho0 (below_size (Bl_ HB))); obtain ⟨BK336, HB⟩ := u1_ hb BK336 HB;clear hb; (try clear ho0)));go_ret2;exact ⟨_, re_, Sl_ HO340.out, Bl_ HB⟩

/-! ### impl_DepthOf: function 8 -/
def impl_DepthOf.f (k : Nat) (a0_0 : Int) (l0_1 : List Int) : Option (Int × Bool) := (impl_LevelsOf.f k a0_0 l0_1).bind fun bt342 => (some ((bt342.1.length : Int), bt342.2))
theorem impl_DepthOf.mono : ∀ a0 a1 k, LeO (impl_DepthOf.f k a0 a1) (impl_DepthOf.f (k + 1) a0 a1) := by
 intro a0 a1 k;unfold impl_DepthOf.f;have m1 := @impl_LevelsOf.mono;exact mo_
theorem impl_DepthOf.calls (k : Nat) (a0_0 : Int) (A0_1 : Option Addr) (c0_1 : Nat) (l0_1 : List Int) (r1 : Int) (r2 : Bool) (w : World) (hr0_1 : Kd.C (Kd.int .i64) w A0_1 l0_1.length l0_1) (hc0_1 : l0_1.length ≤ c0_1) (h : impl_DepthOf.f k a0_0 l0_1 = some (r1, r2)) :
 Calls Tryz.prog 8 #[.agg #[.int .i64 a0_0, .slice A0_1 l0_1.length c0_1]] w fun e w' => e = .returned (.tuple #[.int .i64 r1, .bool r2]) ∧ Below w.heap.size w w' := by
 have hu26 := Tryz.underlying26;have HR0_1 := a_ hr0_1;have HC0_1 := a_ hc0_1;clear hr0_1 hc0_1;have HB := a_ (Below.refl w.heap.size w);have H := h;unfold impl_DepthOf.f at H;clear h;obtain ⟨⟨t342, t345⟩, A2, H⟩ := ob_ H;(try dsimp only at H);obtain ⟨rfl, rfl⟩ := s2_ H;go_enter Tryz.func8, Tryz.ntmps8;go_wp2_with (first | ((with_reducible refine gd_ 1 ?_);refine by_ #[.int .i64 a0_0, .slice A0_1 l0_1.length c0_1] 26 HB ?_;intro gb341 w3 BK341 GW341 HB; obtain ⟨hcz4_0, hcz4_1, hfz4_0, hfz4_1⟩ := cf2_ BK341) | ((with_reducible refine gc_ 6 ?_);refine gx_ (some 8) Tryz.func6 (impl_LevelsOf.calls k a0_0 _ _ l0_1 t342 t345 _ (Cl_ (Kd.C_below HR0_1.out HB.out)) HC0_1.out A2.out) rfl ?_;rintro v343 w5 ⟨ho0, hb⟩; have HO344 := a_ (Kd.S_lower ho0 (below_size (Bl_ HB))); obtain ⟨BK341, HB⟩ := u1_ hb BK341 HB;clear hb; (try clear ho0); obtain ⟨Ao6, co6, eo6⟩ := Kd.S_slice HO344.out; subst eo6));go_ret2;exact ⟨re_, Bl_ HB⟩

/-! ### spec_DepthOf: function 9 -/
def spec_DepthOf.f (k : Nat) (a0_0 : Int) (l0_1 : List Int) : Option (Int × Bool) := (spec_laGood.f k a0_0 l0_1).bind fun t347 => (if t347 = true then ((spec_lvOf.f k a0_0 l0_1).bind fun t348 => (some ((t348.length : Int), true))) else (some (0, false)))
theorem spec_DepthOf.mono : ∀ a0 a1 k, LeO (spec_DepthOf.f k a0 a1) (spec_DepthOf.f (k + 1) a0 a1) := by
 intro a0 a1 k;unfold spec_DepthOf.f;have m1 := @spec_laGood.mono;have m2 := @spec_lvOf.mono;exact mo_
theorem spec_DepthOf.calls (k : Nat) (a0_0 : Int) (A0_1 : Option Addr) (c0_1 : Nat) (l0_1 : List Int) (r1 : Int) (r2 : Bool) (w : World) (hr0_1 : Kd.C (Kd.int .i64) w A0_1 l0_1.length l0_1) (hc0_1 : l0_1.length ≤ c0_1) (h : spec_DepthOf.f k a0_0 l0_1 = some (r1, r2)) :
 Calls Tryz.prog 9 #[.agg #[.int .i64 a0_0, .slice A0_1 l0_1.length c0_1]] w fun e w' => e = .returned (.tuple #[.int .i64 r1, .bool r2]) ∧ Below w.heap.size w w' := by
 have hu26 := Tryz.underlying26;have HR0_1 := a_ hr0_1;have HC0_1 := a_ hc0_1;clear hr0_1 hc0_1;have HB := a_ (Below.refl w.heap.size w);have H := h;unfold spec_DepthOf.f at H;clear h;obtain ⟨t347, A2, H⟩ := ob_ H;(try dsimp only at H);replace H := bc_ H;rcases H with ⟨rfl, H⟩ | ⟨rfl, H⟩
 ·obtain ⟨rfl, rfl⟩ := s2_ H;go_enter Tryz.func9, Tryz.ntmps9;go_wp2_with (first | ((with_reducible refine gd_ 1 ?_);refine by_ #[.int .i64 a0_0, .slice A0_1 l0_1.length c0_1] 26 HB ?_;intro gb346 w11 BK346 GW346 HB; obtain ⟨hcz12_0, hcz12_1, hfz12_0, hfz12_1⟩ := cf2_ BK346) | ((with_reducible refine gc_ 35 ?_);refine gn_ (some 5) Tryz.func35 (spec_laGood.calls k a0_0 _ _ l0_1 false _ (Cl_ (Kd.C_below HR0_1.out HB.out)) HC0_1.out A2.out) rfl ?_;intro w13 hb; obtain ⟨BK346, HB⟩ := u1_ hb BK346 HB;clear hb));go_ret2;exact ⟨re_, Bl_ HB⟩
 obtain ⟨t348, A4, H⟩ := ob_ H;(try dsimp only at H);obtain ⟨rfl, rfl⟩ := s2_ H;go_enter Tryz.func9, Tryz.ntmps9;go_wp2_with (first | ((with_reducible refine gd_ 1 ?_);refine by_ #[.int .i64 a0_0, .slice A0_1 l0_1.length c0_1] 26 HB ?_;intro gb346 w5 BK346 GW346 HB; obtain ⟨hcz6_0, hcz6_1, hfz6_0, hfz6_1⟩ := cf2_ BK346) | ((with_reducible refine gc_ 35 ?_);refine gn_ (some 5) Tryz.func35 (spec_laGood.calls k a0_0 _ _ l0_1 true _ (Cl_ (Kd.C_below HR0_1.out HB.out)) HC0_1.out A2.out) rfl ?_;intro w7 hb; obtain ⟨BK346, HB⟩ := u1_ hb BK346 HB;clear hb; obtain ⟨hcz8_0, hcz8_1, hfz8_0, hfz8_1⟩ := cf2_ BK346) | ((with_reducible refine gc_ 36 ?_);refine gx_ (some 11) Tryz.func36 (spec_lvOf.calls k a0_0 _ _ l0_1 t348 _ (Cl_ (Kd.C_below HR0_1.out HB.out)) HC0_1.out A4.out) rfl ?_;rintro v349 w9 ⟨ho0, hb⟩; have HO350 := a_ (Kd.S_lower ho0 (below_size (Bl_ HB))); obtain ⟨BK346, HB⟩ := u1_ hb BK346 HB;clear hb; (try clear ho0); obtain ⟨Ao10, co10, eo10⟩ := Kd.S_slice HO350.out; subst eo10));go_ret2;exact ⟨re_, Bl_ HB⟩

/-! ### impl_WidestLevel: function 10 -/
def impl_WidestLevel.l0 : Nat → Int → List (List Int) → Int → Int → Option (Int × Bool)
 | 0, _, _, _, _ => none
 | k + 1, x4, x11, x12, x13 => if x13 < x12 then (if 0 ≤ x13 then (if x13 < (x11.length : Int) then (impl_WidestLevel.l0 k (mx x4 ((rd_L2 x11 x13).length : Int)) x11 x12 (wrap64 (x13 + 1))) else (none)) else (none)) else (some (x4, true))
def impl_WidestLevel.f (k : Nat) (a0_0 : Int) (l0_1 : List Int) : Option (Int × Bool) := (impl_isLadder.f a0_0 l0_1).bind fun t352 => (if t352 = true then ((impl_levelsOf.f k a0_0 l0_1).bind fun t353 => (impl_WidestLevel.l0 k 0 t353 (t353.length : Int) 0)) else (some (0, false)))
theorem impl_WidestLevel.mono_l : ∀ k, (∀ y0 y1 y2 y3, LeO (impl_WidestLevel.l0 k y0 y1 y2 y3) (impl_WidestLevel.l0 (k + 1) y0 y1 y2 y3))
 | 0 => fun _ _ _ _ r h => by simp [impl_WidestLevel.l0] at h
 | k + 1 => by
  have ih0 := impl_WidestLevel.mono_l k
  ·intro y0 y1 y2 y3;unfold impl_WidestLevel.l0;exact mo_
theorem impl_WidestLevel.mono : ∀ a0 a1 k, LeO (impl_WidestLevel.f k a0 a1) (impl_WidestLevel.f (k + 1) a0 a1) := by
 intro a0 a1 k;have ih0 := impl_WidestLevel.mono_l k;unfold impl_WidestLevel.f;have m1 := @impl_levelsOf.mono;exact mo_
theorem impl_WidestLevel.calls (k : Nat) (a0_0 : Int) (A0_1 : Option Addr) (c0_1 : Nat) (l0_1 : List Int) (r1 : Int) (r2 : Bool) (w : World) (hr0_1 : Kd.C (Kd.int .i64) w A0_1 l0_1.length l0_1) (hc0_1 : l0_1.length ≤ c0_1) (h : impl_WidestLevel.f k a0_0 l0_1 = some (r1, r2)) :
 Calls Tryz.prog 10 #[.agg #[.int .i64 a0_0, .slice A0_1 l0_1.length c0_1]] w fun e w' => e = .returned (.tuple #[.int .i64 r1, .bool r2]) ∧ Below w.heap.size w w' := by
 have hu26 := Tryz.underlying26;have HR0_1 := a_ hr0_1;have HC0_1 := a_ hc0_1;clear hr0_1 hc0_1;have HB := a_ (Below.refl w.heap.size w);have H := h;unfold impl_WidestLevel.f at H;clear h;obtain ⟨t352, A2, H⟩ := ob_ H;(try dsimp only at H);replace H := bc_ H;rcases H with ⟨rfl, H⟩ | ⟨rfl, H⟩
 ·obtain ⟨rfl, rfl⟩ := s2_ H;go_enter Tryz.func10, Tryz.ntmps10;go_wp2_with (first | ((with_reducible refine gd_ 1 ?_);refine by_ #[.int .i64 a0_0, .slice A0_1 l0_1.length c0_1] 26 HB ?_;intro gb351 w15 BK351 GW351 HB; obtain ⟨hcz16_0, hcz16_1, hfz16_0, hfz16_1⟩ := cf2_ BK351) | ((with_reducible refine gc_ 33 ?_);refine gn_ (some 8) Tryz.func33 (impl_isLadder.calls a0_0 _ _ l0_1 false _ (Cl_ (Kd.C_below HR0_1.out HB.out)) HC0_1.out A2.out) rfl ?_;intro w17 hb; obtain ⟨BK351, HB⟩ := u1_ hb BK351 HB;clear hb));go_ret2;exact ⟨re_, Bl_ HB⟩
 obtain ⟨t353, A4, H⟩ := ob_ H;(try dsimp only at H);have H' := a_ H;clear H;go_enter Tryz.func10, Tryz.ntmps10;go_wp2_with (first | ((with_reducible refine gd_ 1 ?_);refine by_ #[.int .i64 a0_0, .slice A0_1 l0_1.length c0_1] 26 HB ?_;intro gb351 w5 BK351 GW351 HB; obtain ⟨hcz6_0, hcz6_1, hfz6_0, hfz6_1⟩ := cf2_ BK351) | ((with_reducible refine gc_ 33 ?_);refine gn_ (some 8) Tryz.func33 (impl_isLadder.calls a0_0 _ _ l0_1 true _ (Cl_ (Kd.C_below HR0_1.out HB.out)) HC0_1.out A2.out) rfl ?_;intro w7 hb; obtain ⟨BK351, HB⟩ := u1_ hb BK351 HB;clear hb; obtain ⟨hcz8_0, hcz8_1, hfz8_0, hfz8_1⟩ := cf2_ BK351) | ((with_reducible refine gc_ 34 ?_);refine gx_ (some 11) Tryz.func34 (impl_levelsOf.calls k a0_0 _ _ l0_1 t353 _ (Cl_ (Kd.C_below HR0_1.out HB.out)) HC0_1.out A4.out) rfl ?_;rintro v354 w9 ⟨ho0, hb⟩; have HO355 := a_ (Kd.S_lower ho0 (below_size (Bl_ HB))); obtain ⟨BK351, HB⟩ := u1_ hb BK351 HB;clear hb; (try clear ho0); obtain ⟨Ao10, co10, eo10⟩ := Kd.S_slice HO355.out; subst eo10))
 go_loopg [4, 13] k (fun kq v4 v13 w' => ∃ (x4_1 : Int) (x13_1 : Int), v4 = .int .i64 x4_1 ∧ v13 = .int .i64 x13_1 ∧ Aside0 (impl_WidestLevel.l0 kq x4_1 t353 (t353.length : Int) x13_1 = some (r1, r2)) ∧ Aside0 (kq ≤ k) ∧ Aside0 (Kd.S (Kd.slice 3 (Kd.int .i64)) 24 w' w.heap.size (fun _ => True) (.slice Ao10 t353.length co10) t353) ∧ Aside0 (w'.heap[gb351]? = some (.cells #[.int .i64 a0_0, (.slice A0_1 l0_1.length c0_1)] 26 (0, 0))) ∧ Aside0 (Below w.heap.size w w'))
 case atStart => exact ⟨(0), (0), rs_, rs_, H', ⟨Nat.le_refl _⟩, ⟨Sl_ HO355.out⟩, ⟨bl_ BK351⟩, ⟨Bl_ HB⟩⟩
 case round =>
  clear H';(try clear c3);(try clear hcz6_0);(try clear hcz6_1);(try clear hcz8_0);(try clear hcz8_1);(try clear hfz6_0);(try clear hfz6_1);(try clear hfz8_0);(try clear hfz8_1);obtain ⟨x4_1, x13_1, rfl, rfl, HA, HK1, HO_11, BK351, HB⟩ := hrel
  cases gk with
  | zero => exact absurd HA.out (by simp [impl_WidestLevel.l0])
  | succ k1 =>
   have H := HA.out;clear HA;simp only [impl_WidestLevel.l0] at H;rcases ib_ H with ⟨c11, H⟩ | ⟨c11, H⟩
   ·have c11b0 := decide_eq_false c11;clear c11;obtain ⟨rfl, rfl⟩ := s2_ H;go_wp2;go_ret2;exact ⟨re_, Bl_ HB⟩
   have c11b0 := decide_eq_true c11;clear c11;obtain ⟨c12b0, H⟩ := ic_ H;obtain ⟨c13b0, H⟩ := ic_ H;obtain ⟨ji14, hji14⟩ : ∃ j_ : Int, (mx x4_1 ((rd_L2 t353 x13_1).length : Int)) = j_ := ⟨_, rfl⟩
   replace H : (impl_WidestLevel.l0 k1 ji14 t353 (t353.length : Int) (wrap64 (x13_1 + 1))) = some (r1, r2) := by first | (rw [hji14] at H; exact H) | (simp only [hji14] at H ⊢; exact H)
   have hji14_ : (if x4_1 < ((rd_L2 t353 x13_1).length : Int) then ((rd_L2 t353 x13_1).length : Int) else x4_1) = ji14 := hji14;have H' := a_ H;clear H;have p356 : 0 ≤ (x13_1 : Int) := od_;have q356 : x13_1 < (t353.length : Int) := od_;obtain ⟨ad356, A356_0, c356_0, e356, hx356_0, hl356_0, hi356_0⟩ := at_L2 (Kd.S_reads' HO_11.out).2.2 x13_1 p356 q356
   cases e356
   obtain ⟨ce356, hce356, hMe356, hcc356⟩ := Kd.S_get HO_11.out [] x13_1 p356 (by first | exact q356 | exact od_ | (have e_ := (Kd.S_reads' HO_11.out).1; omega));obtain ⟨ve356_0, rfl, ge356_0⟩ := hMe356;have hv356_0 := hcc356 0 _ rfl;rw [Nat.add_zero, show ((Kd.slice 3 (Kd.int .i64))).sz = 1 from rfl, Nat.mul_one] at hv356_0;replace hv356_0 := Option.some.inj (hv356_0.symm.trans hx356_0);rw [hv356_0] at ge356_0;have HL356_0 := a_ (show Kd.R (Kd.int .i64) 3 _ _ _ _ (rd_L2 t353 x13_1) from ge356_0);clear hv356_0 ge356_0;clear hcc356 hce356;have HR356_0 := a_ hi356_0;have HC356_0 := a_ hl356_0;clear hi356_0 hl356_0;replace p356 := eq_true p356;replace q356 := eq_true q356;go_wp2;go_roundg k1
   case measure => have := HK1.out; omega
   case rel => exact ⟨(ji14), (wrap64 (x13_1 + 1)), (by first | rfl | (simp; done) | (simp only [← hji14] <;> (first | rfl | simp)) | (simp [*]; done)), rs_, H', ⟨by have := HK1.out; omega⟩, ⟨Sl_ HO_11.out⟩, ⟨bl_ BK351⟩, ⟨Bl_ HB⟩⟩

/-! ### spec_WidestLevel: function 11 -/
def spec_WidestLevel.l0 : Nat → Int → List (List Int) → Int → Int → Option (Int × Bool)
 | 0, _, _, _, _ => none
 | k + 1, x4, x14, x15, x16 => if x16 < x15 then (if 0 ≤ x16 then (if x16 < (x14.length : Int) then ((spec_l1Most.f x4 ((rd_L2 x14 x16).length : Int)).bind fun t363 => (spec_WidestLevel.l0 k t363 x14 x15 (wrap64 (x16 + 1)))) else (none)) else (none)) else (some (x4, true))
def spec_WidestLevel.f (k : Nat) (a0_0 : Int) (l0_1 : List Int) : Option (Int × Bool) := (spec_laGood.f k a0_0 l0_1).bind fun t358 => (if t358 = true then ((spec_lvOf.f k a0_0 l0_1).bind fun t359 => (spec_WidestLevel.l0 k 0 t359 (t359.length : Int) 0)) else (some (0, false)))
theorem spec_WidestLevel.mono_l : ∀ k, (∀ y0 y1 y2 y3, LeO (spec_WidestLevel.l0 k y0 y1 y2 y3) (spec_WidestLevel.l0 (k + 1) y0 y1 y2 y3))
 | 0 => fun _ _ _ _ r h => by simp [spec_WidestLevel.l0] at h
 | k + 1 => by
  have ih0 := spec_WidestLevel.mono_l k
  ·intro y0 y1 y2 y3;unfold spec_WidestLevel.l0;exact mo_
theorem spec_WidestLevel.mono : ∀ a0 a1 k, LeO (spec_WidestLevel.f k a0 a1) (spec_WidestLevel.f (k + 1) a0 a1) := by
 intro a0 a1 k;have ih0 := spec_WidestLevel.mono_l k;unfold spec_WidestLevel.f;have m1 := @spec_laGood.mono;have m2 := @spec_lvOf.mono;exact mo_
theorem spec_WidestLevel.calls (k : Nat) (a0_0 : Int) (A0_1 : Option Addr) (c0_1 : Nat) (l0_1 : List Int) (r1 : Int) (r2 : Bool) (w : World) (hr0_1 : Kd.C (Kd.int .i64) w A0_1 l0_1.length l0_1) (hc0_1 : l0_1.length ≤ c0_1) (h : spec_WidestLevel.f k a0_0 l0_1 = some (r1, r2)) :
 Calls Tryz.prog 11 #[.agg #[.int .i64 a0_0, .slice A0_1 l0_1.length c0_1]] w fun e w' => e = .returned (.tuple #[.int .i64 r1, .bool r2]) ∧ Below w.heap.size w w' := by
 have hu26 := Tryz.underlying26;have HR0_1 := a_ hr0_1;have HC0_1 := a_ hc0_1;clear hr0_1 hc0_1;have HB := a_ (Below.refl w.heap.size w);have H := h;unfold spec_WidestLevel.f at H;clear h;obtain ⟨t358, A2, H⟩ := ob_ H;(try dsimp only at H);replace H := bc_ H;rcases H with ⟨rfl, H⟩ | ⟨rfl, H⟩
 ·obtain ⟨rfl, rfl⟩ := s2_ H;go_enter Tryz.func11, Tryz.ntmps11;go_wp2_with (first | ((with_reducible refine gd_ 1 ?_);refine by_ #[.int .i64 a0_0, .slice A0_1 l0_1.length c0_1] 26 HB ?_;intro gb357 w15 BK357 GW357 HB; obtain ⟨hcz16_0, hcz16_1, hfz16_0, hfz16_1⟩ := cf2_ BK357) | ((with_reducible refine gc_ 35 ?_);refine gn_ (some 8) Tryz.func35 (spec_laGood.calls k a0_0 _ _ l0_1 false _ (Cl_ (Kd.C_below HR0_1.out HB.out)) HC0_1.out A2.out) rfl ?_;intro w17 hb; obtain ⟨BK357, HB⟩ := u1_ hb BK357 HB;clear hb));go_ret2;exact ⟨re_, Bl_ HB⟩
 obtain ⟨t359, A4, H⟩ := ob_ H;(try dsimp only at H);have H' := a_ H;clear H;go_enter Tryz.func11, Tryz.ntmps11;go_wp2_with (first | ((with_reducible refine gd_ 1 ?_);refine by_ #[.int .i64 a0_0, .slice A0_1 l0_1.length c0_1] 26 HB ?_;intro gb357 w5 BK357 GW357 HB; obtain ⟨hcz6_0, hcz6_1, hfz6_0, hfz6_1⟩ := cf2_ BK357) | ((with_reducible refine gc_ 35 ?_);refine gn_ (some 8) Tryz.func35 (spec_laGood.calls k a0_0 _ _ l0_1 true _ (Cl_ (Kd.C_below HR0_1.out HB.out)) HC0_1.out A2.out) rfl ?_;intro w7 hb; obtain ⟨BK357, HB⟩ := u1_ hb BK357 HB;clear hb; obtain ⟨hcz8_0, hcz8_1, hfz8_0, hfz8_1⟩ := cf2_ BK357) | ((with_reducible refine gc_ 36 ?_);refine gx_ (some 14) Tryz.func36 (spec_lvOf.calls k a0_0 _ _ l0_1 t359 _ (Cl_ (Kd.C_below HR0_1.out HB.out)) HC0_1.out A4.out) rfl ?_;rintro v360 w9 ⟨ho0, hb⟩; have HO361 := a_ (Kd.S_lower ho0 (below_size (Bl_ HB))); obtain ⟨BK357, HB⟩ := u1_ hb BK357 HB;clear hb; (try clear ho0); obtain ⟨Ao10, co10, eo10⟩ := Kd.S_slice HO361.out; subst eo10))
 go_loopg [4, 16] k (fun kq v4 v16 w' => ∃ (x4_1 : Int) (x16_1 : Int), v4 = .int .i64 x4_1 ∧ v16 = .int .i64 x16_1 ∧ Aside0 (spec_WidestLevel.l0 kq x4_1 t359 (t359.length : Int) x16_1 = some (r1, r2)) ∧ Aside0 (kq ≤ k) ∧ Aside0 (Kd.S (Kd.slice 3 (Kd.int .i64)) 24 w' w.heap.size (fun _ => True) (.slice Ao10 t359.length co10) t359) ∧ Aside0 (w'.heap[gb357]? = some (.cells #[.int .i64 a0_0, (.slice A0_1 l0_1.length c0_1)] 26 (0, 0))) ∧ Aside0 (Below w.heap.size w w'))
 case atStart => exact ⟨(0), (0), rs_, rs_, H', ⟨Nat.le_refl _⟩, ⟨Sl_ HO361.out⟩, ⟨bl_ BK357⟩, ⟨Bl_ HB⟩⟩
 case round =>
  clear H';(try clear c3);(try clear hcz6_0);(try clear hcz6_1);(try clear hcz8_0);(try clear hcz8_1);(try clear hfz6_0);(try clear hfz6_1);(try clear hfz8_0);(try clear hfz8_1);obtain ⟨x4_1, x16_1, rfl, rfl, HA, HK1, HO_14, BK357, HB⟩ := hrel
  cases gk with
  | zero => exact absurd HA.out (by simp [spec_WidestLevel.l0])
  | succ k1 =>
   have H := HA.out;clear HA;simp only [spec_WidestLevel.l0] at H;rcases ib_ H with ⟨c11, H⟩ | ⟨c11, H⟩
   ·have c11b0 := decide_eq_false c11;clear c11;obtain ⟨rfl, rfl⟩ := s2_ H;go_wp2;go_ret2;exact ⟨re_, Bl_ HB⟩
   have c11b0 := decide_eq_true c11;clear c11;obtain ⟨c12b0, H⟩ := ic_ H;obtain ⟨c13b0, H⟩ := ic_ H;obtain ⟨t363, A14, H⟩ := ob_ H;(try dsimp only at H);have H' := a_ H;clear H;have p362 : 0 ≤ (x16_1 : Int) := od_;have q362 : x16_1 < (t359.length : Int) := od_;obtain ⟨ad362, A362_0, c362_0, e362, hx362_0, hl362_0, hi362_0⟩ := at_L2 (Kd.S_reads' HO_14.out).2.2 x16_1 p362 q362
   cases e362
   obtain ⟨ce362, hce362, hMe362, hcc362⟩ := Kd.S_get HO_14.out [] x16_1 p362 (by first | exact q362 | exact od_ | (have e_ := (Kd.S_reads' HO_14.out).1; omega));obtain ⟨ve362_0, rfl, ge362_0⟩ := hMe362;have hv362_0 := hcc362 0 _ rfl;rw [Nat.add_zero, show ((Kd.slice 3 (Kd.int .i64))).sz = 1 from rfl, Nat.mul_one] at hv362_0;replace hv362_0 := Option.some.inj (hv362_0.symm.trans hx362_0);rw [hv362_0] at ge362_0;have HL362_0 := a_ (show Kd.R (Kd.int .i64) 3 _ _ _ _ (rd_L2 t359 x16_1) from ge362_0);clear hv362_0 ge362_0;clear hcc362 hce362;have HR362_0 := a_ hi362_0;have HC362_0 := a_ hl362_0;clear hi362_0 hl362_0;replace p362 := eq_true p362;replace q362 := eq_true q362;go_wp2_with (first | ((with_reducible refine gc_ 37 ?_);refine gn_ (some 23) Tryz.func37 (spec_l1Most.calls x4_1 ((rd_L2 t359 x16_1).length : Int) t363 _ A14.out) rfl ?_;rintro w' ⟨nd, rfl⟩));go_roundg k1
   case measure => have := HK1.out; omega
   case rel => exact ⟨(t363), (wrap64 (x16_1 + 1)), rs_, rs_, H', ⟨by have := HK1.out; omega⟩, ⟨Sl_ HO_14.out⟩, ⟨bl_ BK357⟩, ⟨Bl_ HB⟩⟩

/-! ### laws_nSame: function 17 -/
def laws_nSame.l0 : Nat → List Int → List Int → Int → Int → Option (Bool)
 | 0, _, _, _, _ => none
 | k + 1, x0, x1, x12, x13 => if x13 < x12 then (if 0 ≤ x13 then (if x13 < (x0.length : Int) then (if x13 < (x1.length : Int) then (if (rd x0 x13) = (rd x1 x13) then (laws_nSame.l0 k x0 x1 x12 (wrap64 (x13 + 1))) else (some false)) else (none)) else (none)) else (none)) else (some true)
def laws_nSame.f (k : Nat) (l0 : List Int) (l1 : List Int) : Option (Bool) := if (l0.length : Int) = (l1.length : Int) then (laws_nSame.l0 k l0 l1 (l0.length : Int) 0) else (some false)
theorem laws_nSame.mono_l : ∀ k, (∀ y0 y1 y2 y3, LeO (laws_nSame.l0 k y0 y1 y2 y3) (laws_nSame.l0 (k + 1) y0 y1 y2 y3))
 | 0 => fun _ _ _ _ r h => by simp [laws_nSame.l0] at h
 | k + 1 => by
  have ih0 := laws_nSame.mono_l k
  ·intro y0 y1 y2 y3;unfold laws_nSame.l0;exact mo_
theorem laws_nSame.mono : ∀ a0 a1 k, LeO (laws_nSame.f k a0 a1) (laws_nSame.f (k + 1) a0 a1) := by
 intro a0 a1 k;have ih0 := laws_nSame.mono_l k;unfold laws_nSame.f;exact mo_
theorem laws_nSame.calls (k : Nat) (A0 : Option Addr) (c0 : Nat) (l0 : List Int) (A1 : Option Addr) (c1 : Nat) (l1 : List Int) (r : Bool) (w : World) (hr0 : Kd.C (Kd.int .i64) w A0 l0.length l0) (hc0 : l0.length ≤ c0) (hr1 : Kd.C (Kd.int .i64) w A1 l1.length l1) (hc1 : l1.length ≤ c1) (h : laws_nSame.f k l0 l1 = some r) :
 Calls Tryz.prog 17 #[.slice A0 l0.length c0, .slice A1 l1.length c1] w fun e w' => e = .returned (.bool r) ∧ Drawn0 w w' := by
 have HR0 := a_ hr0;have HC0 := a_ hc0;clear hr0 hc0;have HR1 := a_ hr1;have HC1 := a_ hc1;clear hr1 hc1;have H := h;unfold laws_nSame.f at H;clear h;rcases ib_ H with ⟨c3, H⟩ | ⟨c3, H⟩
 ·obtain ⟨c3b0, c3b1⟩ := qf_ c3
  have c3b2 : (l0.length == l1.length) = false := by first | simpa using c3 | (simp at c3 ⊢; omega)
  obtain rfl := s1_ H;go_enter Tryz.func17, Tryz.ntmps17;go_wp2
  repeat (go_quiet (fail); try go_wp2)
  go_ret;exact ⟨rs_, dr_⟩
 obtain ⟨c3b0, c3b1⟩ := qt_ c3
 have c3b2 : (l0.length == l1.length) = true := by first | simpa using c3 | (simp at c3 ⊢; omega)
 clear c3;have H' := a_ H;clear H;go_enter Tryz.func17, Tryz.ntmps17;go_wp2
 repeat (go_quiet (fail); try go_wp2)
 go_loopg [13] k (fun kq v13 w' => ∃ (x13_1 : Int), v13 = .int .i64 x13_1 ∧ Aside0 (laws_nSame.l0 kq l0 l1 (l0.length : Int) x13_1 = some r) ∧ Aside0 (kq ≤ k) ∧ Drawn0 w w')
 case atStart => exact ⟨(0), rs_, H', ⟨Nat.le_refl _⟩, dr_⟩
 case round =>
  clear H';(try clear c3b0);(try clear c3b1);(try clear c3b2);obtain ⟨x13_1, rfl, HA, HK1, ⟨m1, rfl⟩⟩ := hrel
  cases gk with
  | zero => exact absurd HA.out (by simp [laws_nSame.l0])
  | succ k1 =>
   have H := HA.out;clear HA;simp only [laws_nSame.l0] at H;rcases ib_ H with ⟨c4, H⟩ | ⟨c4, H⟩
   ·have c4b0 := decide_eq_false c4;clear c4;obtain rfl := s1_ H;go_wp2
    repeat (go_quiet (fail); try go_wp2)
    go_ret;exact ⟨rs_, dr_⟩
   have c4b0 := decide_eq_true c4;clear c4;obtain ⟨c5b0, H⟩ := ic_ H;obtain ⟨c6b0, H⟩ := ic_ H;obtain ⟨c7b0, H⟩ := ic_ H;rcases ib_ H with ⟨c8, H⟩ | ⟨c8, H⟩
   ·obtain ⟨c8b0, c8b1⟩ := qf_ c8;obtain rfl := s1_ H;obtain ⟨ad364, e364, hx364_0, p364, q364⟩ := ai_ HR0.out x13_1
    cases e364;obtain ⟨ad365, e365, hx365_0, p365, q365⟩ := ai_ HR1.out x13_1
    cases e365;go_wp2
    repeat (go_quiet (fail); try go_wp2)
    go_ret;exact ⟨rs_, dr_⟩
   obtain ⟨c8b0, c8b1⟩ := qt_ c8;clear c8;have H' := a_ H;clear H;obtain ⟨ad364, e364, hx364_0, p364, q364⟩ := ai_ HR0.out x13_1
   cases e364;obtain ⟨ad365, e365, hx365_0, p365, q365⟩ := ai_ HR1.out x13_1
   cases e365;go_wp2
   repeat (go_quiet (fail); try go_wp2)
   go_roundg k1
   case measure => have := HK1.out; omega
   case rel => exact ⟨(wrap64 (x13_1 + 1)), rs_, H', ⟨by have := HK1.out; omega⟩, dr_⟩

/-! ### laws_nRows: function 12 -/
def laws_nRows.l0 : Nat → List (List Int) → List (List Int) → Int → Int → Option (Bool)
 | 0, _, _, _, _ => none
 | k + 1, x0, x1, x12, x13 => if x13 < x12 then (if 0 ≤ x13 then (if x13 < (x0.length : Int) then (if x13 < (x1.length : Int) then ((laws_nSame.f k (rd_L2 x0 x13) (rd_L2 x1 x13)).bind fun t368 => (if t368 = true then (laws_nRows.l0 k x0 x1 x12 (wrap64 (x13 + 1))) else (some false))) else (none)) else (none)) else (none)) else (some true)
def laws_nRows.f (k : Nat) (l0 : List (List Int)) (l1 : List (List Int)) : Option (Bool) := if (l0.length : Int) = (l1.length : Int) then (laws_nRows.l0 k l0 l1 (l0.length : Int) 0) else (some false)
theorem laws_nRows.mono_l : ∀ k, (∀ y0 y1 y2 y3, LeO (laws_nRows.l0 k y0 y1 y2 y3) (laws_nRows.l0 (k + 1) y0 y1 y2 y3))
 | 0 => fun _ _ _ _ r h => by simp [laws_nRows.l0] at h
 | k + 1 => by
  have ih0 := laws_nRows.mono_l k
  ·intro y0 y1 y2 y3;unfold laws_nRows.l0;have m1 := @laws_nSame.mono;exact mo_
theorem laws_nRows.mono : ∀ a0 a1 k, LeO (laws_nRows.f k a0 a1) (laws_nRows.f (k + 1) a0 a1) := by
 intro a0 a1 k;have ih0 := laws_nRows.mono_l k;unfold laws_nRows.f;exact mo_
theorem laws_nRows.calls (k : Nat) (A0 : Option Addr) (c0 : Nat) (l0 : List (List Int)) (A1 : Option Addr) (c1 : Nat) (l1 : List (List Int)) (r : Bool) (w : World) (hr0 : Kd.C (Kd.slice 3 (Kd.int .i64)) w A0 l0.length l0) (hc0 : l0.length ≤ c0) (hr1 : Kd.C (Kd.slice 3 (Kd.int .i64)) w A1 l1.length l1) (hc1 : l1.length ≤ c1) (h : laws_nRows.f k l0 l1 = some r) :
 Calls Tryz.prog 12 #[.slice A0 l0.length c0, .slice A1 l1.length c1] w fun e w' => e = .returned (.bool r) ∧ Drawn0 w w' := by
 have HR0 := a_ hr0;have HC0 := a_ hc0;clear hr0 hc0;have HR1 := a_ hr1;have HC1 := a_ hc1;clear hr1 hc1;have H := h;unfold laws_nRows.f at H;clear h;rcases ib_ H with ⟨c3, H⟩ | ⟨c3, H⟩
 ·obtain ⟨c3b0, c3b1⟩ := qf_ c3
  have c3b2 : (l0.length == l1.length) = false := by first | simpa using c3 | (simp at c3 ⊢; omega)
  obtain rfl := s1_ H;go_enter Tryz.func12, Tryz.ntmps12;go_wp2
  repeat (go_quiet (fail); try go_wp2)
  go_ret;exact ⟨rs_, dr_⟩
 obtain ⟨c3b0, c3b1⟩ := qt_ c3
 have c3b2 : (l0.length == l1.length) = true := by first | simpa using c3 | (simp at c3 ⊢; omega)
 clear c3;have H' := a_ H;clear H;go_enter Tryz.func12, Tryz.ntmps12;go_wp2
 repeat (go_quiet (fail); try go_wp2)
 go_loopg [13] k (fun kq v13 w' => ∃ (x13_1 : Int), v13 = .int .i64 x13_1 ∧ Aside0 (laws_nRows.l0 kq l0 l1 (l0.length : Int) x13_1 = some r) ∧ Aside0 (kq ≤ k) ∧ Drawn0 w w')
 case atStart => exact ⟨(0), rs_, H', ⟨Nat.le_refl _⟩, dr_⟩
 case round =>
  clear H';(try clear c3b0);(try clear c3b1);(try clear c3b2);obtain ⟨x13_1, rfl, HA, HK1, ⟨m1, rfl⟩⟩ := hrel
  cases gk with
  | zero => exact absurd HA.out (by simp [laws_nRows.l0])
  | succ k1 =>
   have H := HA.out;clear HA;simp only [laws_nRows.l0] at H;rcases ib_ H with ⟨c4, H⟩ | ⟨c4, H⟩
   ·have c4b0 := decide_eq_false c4;clear c4;obtain rfl := s1_ H;go_wp2
    repeat (go_quiet (fail); try go_wp2)
    go_ret;exact ⟨rs_, dr_⟩
   have c4b0 := decide_eq_true c4;clear c4;obtain ⟨c5b0, H⟩ := ic_ H;obtain ⟨c6b0, H⟩ := ic_ H;obtain ⟨c7b0, H⟩ := ic_ H;obtain ⟨t368, A8, H⟩ := ob_ H;(try dsimp only at H);replace H := bc_ H;rcases H with ⟨rfl, H⟩ | ⟨rfl, H⟩
   ·obtain rfl := s1_ H;have p366 : 0 ≤ (x13_1 : Int) := od_;have q366 : x13_1 < (l0.length : Int) := od_;obtain ⟨ad366, A366_0, c366_0, e366, hx366_0, hl366_0, hi366_0⟩ := at_L2 HR0.out x13_1 p366 q366
    cases e366
    have HR366_0 := a_ hi366_0;have HC366_0 := a_ hl366_0;clear hi366_0 hl366_0;replace p366 := eq_true p366;replace q366 := eq_true q366;have p367 : 0 ≤ (x13_1 : Int) := od_;have q367 : x13_1 < (l1.length : Int) := od_;obtain ⟨ad367, A367_0, c367_0, e367, hx367_0, hl367_0, hi367_0⟩ := at_L2 HR1.out x13_1 p367 q367
    cases e367
    have HR367_0 := a_ hi367_0;have HC367_0 := a_ hl367_0;clear hi367_0 hl367_0;replace p367 := eq_true p367;replace q367 := eq_true q367
    iterate 4 ((try go_quiet (first | (go_at_call 17; (with_reducible refine (laws_nSame.calls k1 _ _ (rd_L2 l0 x13_1) _ _ (rd_L2 l1 x13_1) false _ ?side1 ?side2 ?side3 ?side4 A8.out).mono ?_); (case side1 => repeat (first | exact HR366_0.out | (with_reducible refine Kd.C_alloc ?_ _) | (with_reducible refine Kd.C_drewN ?_ _) | (with_reducible refine Kd.C_drew ?_))); (case side2 => exact HC366_0.out); (case side3 => repeat (first | exact HR367_0.out | (with_reducible refine Kd.C_alloc ?_ _) | (with_reducible refine Kd.C_drewN ?_ _) | (with_reducible refine Kd.C_drew ?_))); (case side4 => exact HC367_0.out); rintro e w' ⟨rfl, ⟨nd, rfl⟩⟩; (try exact dd_))));(try go_wp2_with (first | (go_at_call 17; (with_reducible refine (laws_nSame.calls k1 _ _ (rd_L2 l0 x13_1) _ _ (rd_L2 l1 x13_1) false _ ?side1 ?side2 ?side3 ?side4 A8.out).mono ?_); (case side1 => repeat (first | exact HR366_0.out | (with_reducible refine Kd.C_alloc ?_ _) | (with_reducible refine Kd.C_drewN ?_ _) | (with_reducible refine Kd.C_drew ?_))); (case side2 => exact HC366_0.out); (case side3 => repeat (first | exact HR367_0.out | (with_reducible refine Kd.C_alloc ?_ _) | (with_reducible refine Kd.C_drewN ?_ _) | (with_reducible refine Kd.C_drew ?_))); (case side4 => exact HC367_0.out); rintro e w' ⟨rfl, ⟨nd, rfl⟩⟩; (try exact dd_)))))
    go_ret;exact ⟨rs_, dr_⟩
   have H' := a_ H;clear H;have p366 : 0 ≤ (x13_1 : Int) := od_;have q366 : x13_1 < (l0.length : Int) := od_;obtain ⟨ad366, A366_0, c366_0, e366, hx366_0, hl366_0, hi366_0⟩ := at_L2 HR0.out x13_1 p366 q366
   cases e366
   have HR366_0 := a_ hi366_0;have HC366_0 := a_ hl366_0;clear hi366_0 hl366_0;replace p366 := eq_true p366;replace q366 := eq_true q366;have p367 : 0 ≤ (x13_1 : Int) := od_;have q367 : x13_1 < (l1.length : Int) := od_;obtain ⟨ad367, A367_0, c367_0, e367, hx367_0, hl367_0, hi367_0⟩ := at_L2 HR1.out x13_1 p367 q367
   cases e367
   have HR367_0 := a_ hi367_0;have HC367_0 := a_ hl367_0;clear hi367_0 hl367_0;replace p367 := eq_true p367;replace q367 := eq_true q367
   iterate 4 ((try go_quiet (first | (go_at_call 17; (with_reducible refine (laws_nSame.calls k1 _ _ (rd_L2 l0 x13_1) _ _ (rd_L2 l1 x13_1) true _ ?side1 ?side2 ?side3 ?side4 A8.out).mono ?_); (case side1 => repeat (first | exact HR366_0.out | (with_reducible refine Kd.C_alloc ?_ _) | (with_reducible refine Kd.C_drewN ?_ _) | (with_reducible refine Kd.C_drew ?_))); (case side2 => exact HC366_0.out); (case side3 => repeat (first | exact HR367_0.out | (with_reducible refine Kd.C_alloc ?_ _) | (with_reducible refine Kd.C_drewN ?_ _) | (with_reducible refine Kd.C_drew ?_))); (case side4 => exact HC367_0.out); rintro e w' ⟨rfl, ⟨nd, rfl⟩⟩; (try exact dd_))));(try go_wp2_with (first | (go_at_call 17; (with_reducible refine (laws_nSame.calls k1 _ _ (rd_L2 l0 x13_1) _ _ (rd_L2 l1 x13_1) true _ ?side1 ?side2 ?side3 ?side4 A8.out).mono ?_); (case side1 => repeat (first | exact HR366_0.out | (with_reducible refine Kd.C_alloc ?_ _) | (with_reducible refine Kd.C_drewN ?_ _) | (with_reducible refine Kd.C_drew ?_))); (case side2 => exact HC366_0.out); (case side3 => repeat (first | exact HR367_0.out | (with_reducible refine Kd.C_alloc ?_ _) | (with_reducible refine Kd.C_drewN ?_ _) | (with_reducible refine Kd.C_drew ?_))); (case side4 => exact HC367_0.out); rintro e w' ⟨rfl, ⟨nd, rfl⟩⟩; (try exact dd_)))))
   go_roundg k1
   case measure => have := HK1.out; omega
   case rel => exact ⟨(wrap64 (x13_1 + 1)), rs_, H', ⟨by have := HK1.out; omega⟩, dr_⟩

/-! ### impl_IsLadder: function 13 -/
def impl_IsLadder.f (a0_0 : Int) (l0_1 : List Int) : Option (Bool) := (impl_isLadder.f a0_0 l0_1).bind fun t370 => (some t370)
theorem impl_IsLadder.calls (a0_0 : Int) (A0_1 : Option Addr) (c0_1 : Nat) (l0_1 : List Int) (r : Bool) (w : World) (hr0_1 : Kd.C (Kd.int .i64) w A0_1 l0_1.length l0_1) (hc0_1 : l0_1.length ≤ c0_1) (h : impl_IsLadder.f a0_0 l0_1 = some r) :
 Calls Tryz.prog 13 #[.agg #[.int .i64 a0_0, .slice A0_1 l0_1.length c0_1]] w fun e w' => e = .returned (.bool r) ∧ Below w.heap.size w w' := by
 have hu26 := Tryz.underlying26;have HR0_1 := a_ hr0_1;have HC0_1 := a_ hc0_1;clear hr0_1 hc0_1;have HB := a_ (Below.refl w.heap.size w);have H := h;unfold impl_IsLadder.f at H;clear h;obtain ⟨t370, A2, H⟩ := ob_ H;(try dsimp only at H);obtain rfl := s1_ H;go_enter Tryz.func13, Tryz.ntmps13;go_wp2_with (first | ((with_reducible refine gd_ 1 ?_);refine by_ #[.int .i64 a0_0, .slice A0_1 l0_1.length c0_1] 26 HB ?_;intro gb369 w3 BK369 GW369 HB; obtain ⟨hcz4_0, hcz4_1, hfz4_0, hfz4_1⟩ := cf2_ BK369) | ((with_reducible refine gc_ 33 ?_);refine gn_ (some 4) Tryz.func33 (impl_isLadder.calls a0_0 _ _ l0_1 t370 _ (Cl_ (Kd.C_below HR0_1.out HB.out)) HC0_1.out A2.out) rfl ?_;intro w5 hb; obtain ⟨BK369, HB⟩ := u1_ hb BK369 HB;clear hb));go_ret;exact ⟨re_, Bl_ HB⟩

/-! ### impl_isWires: function 38 -/
def impl_isWires.f (a0 : Int) : Option (Bool) := (impl_between.f a0 2 8).bind fun t371 => (some t371)
theorem impl_isWires.calls (a0 : Int) (r : Bool) (w : World) (h : impl_isWires.f a0 = some r) :
 Calls Tryz.prog 38 #[.int .i64 a0] w fun e w' => e = .returned (.bool r) ∧ Drawn0 w w' := by
 have H := h;unfold impl_isWires.f at H;clear h;obtain ⟨t371, A2, H⟩ := ob_ H;(try dsimp only at H);obtain rfl := s1_ H;go_enter Tryz.func38, Tryz.ntmps38;go_wp2_with (first | ((with_reducible refine gc_ 67 ?_);refine gn_ (some 4) Tryz.func67 (impl_between.calls a0 2 8 t371 _ A2.out) rfl ?_;rintro w' ⟨nd, rfl⟩));go_ret;exact ⟨rs_, dr_⟩

/-! ### slices_IndexFunc_int_int_76: function 76 -/
def idxFromL (p : List Int → Bool) : List (List Int) → Nat → Int
  | [], _ => -1
  | x :: l, i => if p x = true then (i : Int) else idxFromL p l (i + 1)
theorem idxFromL_hit {p : List Int → Bool} {l : List (List Int)} {i j : Nat} (h : i < l.length) (hp : p l[i] = true) : idxFromL p (l.drop i) j = (j : Int) := by
  rw [List.drop_eq_getElem_cons h]; simp only [idxFromL]; rw [if_pos hp]
theorem idxFromL_next {p : List Int → Bool} {l : List (List Int)} {i j : Nat} (h : i < l.length) (hp : p l[i] = false) : idxFromL p (l.drop i) j = idxFromL p (l.drop (i + 1)) (j + 1) := by
  rw [List.drop_eq_getElem_cons h]; simp only [idxFromL]; rw [if_neg (by simp [hp])]
theorem idxFromL_any (p : List Int → Bool) : ∀ (l : List (List Int)) (j : Nat), decide (0 ≤ idxFromL p l j) = l.any p
  | [], _ => rfl
  | x :: l, j => by
    by_cases h : p x = true
    · simp [idxFromL, h]
    · simp [idxFromL, h, idxFromL_any p l (j + 1)]
/-- what a row of rows holds at a place -/
theorem lists_at {w : World} {A : Option Addr} {ls : List (List Int)} (h : Kd.C (Kd.slice 3 (Kd.int .i64)) w A ls.length ls) (i : Nat) (hi : i < ls.length) : ∃ ad Ax cx, A = some ad ∧ w.cell? (ad.add i) = some (.slice Ax ls[i].length cx) ∧ ls[i].length ≤ cx ∧ Kd.C (Kd.int .i64) w Ax ls[i].length ls[i] := by
  obtain ⟨ad, c, e, hcl, hK, hcc⟩ := Kd.C_get h [] (i : Int) (by omega) (by omega)
  obtain ⟨Ax, cx, rfl, hl, hC⟩ := hK
  have e2 : ls.getD ((i : Int)).toNat [] = ls[i] := by rw [show ((i : Int)).toNat = i from rfl, List.getD_eq_getElem?_getD, List.getElem?_eq_getElem hi]; rfl
  rw [e2] at hl hC hcc
  have h1 := hcc 0 _ rfl
  rw [show ((i : Int)).toNat = i from rfl] at h1
  exact ⟨ad, Ax, cx, e, by simpa [Kd.slice] using h1, hl, hC⟩
/-- slices.IndexFunc at [][]int: what it asks of the function value stands in hp. -/
theorem IndexFuncSS_calls (p : List Int → Bool) (g : Nat) (lb : Array Value) (eg : ∀ args w, (callFunc g args).run Tryz.prog w = .ok (.enter g args) w) (A0 : Option Addr) (c0 : Nat) (l0 : List (List Int)) (w : World) (hm : l0.length ≤ 9223372036854775807)
 (hr0 : Kd.C (Kd.slice 3 (Kd.int .i64)) w A0 l0.length l0) (hp : ∀ W x Ax cx, x ∈ l0 → Below w.heap.size w W → Kd.C (Kd.int .i64) W Ax x.length x → x.length ≤ cx → Calls Tryz.prog g (#[.slice Ax x.length cx] ++ lb) W fun e w' => e = .returned (.bool (p x)) ∧ Drawn0 W w') :
 Calls Tryz.prog 76 #[.slice A0 l0.length c0, .func (.func g) #[] lb] w fun e w' => e = .returned (.int .i64 (idxFromL p l0 0)) ∧ Drawn0 w w' := by
 have HM := Lib.hid hm;have HR := a_ hr0;have HP := a_ hp;clear hr0 hp hm;go_enter Tryz.func76, Tryz.ntmps76;go_wp2;go_loopg [5, 8] l0.length (fun gg _ s8 wr => ∃ kk q : Nat, kk ≤ l0.length ∧ l0.length - kk ≤ gg ∧ s8 = .int .i64 kk ∧ wr = w.drewN q ∧ Aside0 (idxFromL p (l0.drop kk) kk = idxFromL p l0 0))
 case atStart => exact ⟨0, 0, Nat.zero_le _, by omega, rfl, rfl, ⟨rfl⟩⟩
 case round =>
  obtain ⟨kk, q, hkk, hg, rfl, rfl, A⟩ := hrel;by_cases hlt : kk < l0.length
  ·have hltz : (kk : Int) < (l0.length : Int) := by omega
   have hm : l0.length ≤ 9223372036854775807 := HM.out;obtain ⟨ad, Ax, cx, ead, hcell, hcx, hCx⟩ := lists_at HR.out kk hlt
   cases ead
   have hcall := HP.out (w.drewN q) l0[kk] Ax cx (List.getElem_mem hlt) (pw_below_drewN (Below.refl _ w) q) (Kd.C_drewN hCx q) hcx;clear hCx hcx;generalize hy : l0[kk] = y at hcell hcall;have B := a_ hy;clear hy
   cases hq : p y with
   | true =>
    rw [hq] at hcall;have Hq := Lib.hid hq;clear hq;go_wp2_with (go_at_fn g; refine (hcall).mono ?_; rintro e w' ⟨rfl, ⟨q', rfl⟩⟩);go_ret;refine ⟨?_, ⟨_, rfl⟩⟩;have h1 := idxFromL_hit (p := p) (l := l0) (i := kk) (j := kk) hlt (by rw [B.out]; exact Hq.out);rw [← A.out, h1]; rfl
   | false =>
    rw [hq] at hcall;have Hq := Lib.hid hq;clear hq;go_wp2_with (go_at_fn g; refine (hcall).mono ?_; rintro e w' ⟨rfl, ⟨q', rfl⟩⟩);go_roundg (l0.length - (kk + 1))
    case measure => omega
    case rel =>
     refine ⟨kk + 1, _, by omega, by omega, by go_num, rfl, ⟨?_⟩⟩;rw [← A.out, idxFromL_next hlt (by rw [B.out]; exact Hq.out)]
  ·have hltz : ¬ (kk : Int) < (l0.length : Int) := by omega
   have : kk = l0.length := by omega
   have e2 : idxFromL p l0 0 = -1 := by rw [← A.out, this, List.drop_length]; rfl
   have E2 := Lib.hid e2;clear e2 A;clear this;go_wp2;go_ret;exact ⟨by rw [E2.out]; rfl, ⟨q, rfl⟩⟩


/-! ### slices_ContainsFunc_int_int_39: function 39 -/
/-- slices.ContainsFunc at [][]int. -/
theorem ContainsFuncSS_calls (p : List Int → Bool) (g : Nat) (lb : Array Value) (eg : ∀ args w, (callFunc g args).run Tryz.prog w = .ok (.enter g args) w) (A0 : Option Addr) (c0 : Nat) (l0 : List (List Int)) (w : World) (hm : l0.length ≤ 9223372036854775807)
 (hr0 : Kd.C (Kd.slice 3 (Kd.int .i64)) w A0 l0.length l0) (hp : ∀ W x Ax cx, x ∈ l0 → Below w.heap.size w W → Kd.C (Kd.int .i64) W Ax x.length x → x.length ≤ cx → Calls Tryz.prog g (#[.slice Ax x.length cx] ++ lb) W fun e w' => e = .returned (.bool (p x)) ∧ Drawn0 W w') :
 Calls Tryz.prog 39 #[.slice A0 l0.length c0, .func (.func g) #[] lb] w fun e w' => e = .returned (.bool (l0.any p)) ∧ Drawn0 w w' := by
 have hcon := IndexFuncSS_calls p g lb eg A0 c0 l0 w hm hr0 hp;have HE := Lib.hid (idxFromL_any p l0 0);clear hr0 hp hm;generalize idxFromL p l0 0 = r at hcon HE;generalize l0.any p = b at HE ⊢;go_enter Tryz.func39, Tryz.ntmps39;go_wp2_with (go_at_call 76; refine hcon.mono ?_; rintro e w' ⟨rfl, ⟨q, rfl⟩⟩);go_ret;exact ⟨by rw [← HE.out]; rfl, ⟨q, rfl⟩⟩


/-! ### impl_isLevel: function 41 -/
def impl_isLevel.l0 : Nat → Int → List Int → List Int → Int → Int → Option (Bool)
 | 0, _, _, _, _, _ => none
 | k + 1, x0, x1, x7, x8, x9 => if x9 < x8 then (if 0 ≤ x9 then (if x9 < (x7.length : Int) then ((impl_between.f (rd x7 x9) 0 (wrap64 (x0 - 2))).bind fun t373 => (if t373 = true then (if x9 > 0 then (if 0 ≤ (wrap64 (x9 - 1)) then (if (wrap64 (x9 - 1)) < (x1.length : Int) then (if (rd x7 x9) < (wrap64 ((rd x1 (wrap64 (x9 - 1))) + 2)) then (some false) else (impl_isLevel.l0 k x0 x1 x7 x8 (wrap64 (x9 + 1)))) else (none)) else (none)) else (impl_isLevel.l0 k x0 x1 x7 x8 (wrap64 (x9 + 1)))) else (some false))) else (none)) else (none)) else (some true)
def impl_isLevel.f (k : Nat) (a0 : Int) (l1 : List Int) : Option (Bool) := impl_isLevel.l0 k a0 l1 l1 (l1.length : Int) 0
theorem impl_isLevel.mono_l : ∀ k, (∀ y0 y1 y2 y3 y4, LeO (impl_isLevel.l0 k y0 y1 y2 y3 y4) (impl_isLevel.l0 (k + 1) y0 y1 y2 y3 y4))
 | 0 => fun _ _ _ _ _ r h => by simp [impl_isLevel.l0] at h
 | k + 1 => by
  have ih0 := impl_isLevel.mono_l k
  ·intro y0 y1 y2 y3 y4;unfold impl_isLevel.l0;exact mo_
theorem impl_isLevel.mono : ∀ a0 a1 k, LeO (impl_isLevel.f k a0 a1) (impl_isLevel.f (k + 1) a0 a1) := by
 intro a0 a1 k;have ih0 := impl_isLevel.mono_l k;unfold impl_isLevel.f;exact mo_
theorem impl_isLevel.calls (k : Nat) (a0 : Int) (A1 : Option Addr) (c1 : Nat) (l1 : List Int) (r : Bool) (w : World) (hr1 : Kd.C (Kd.int .i64) w A1 l1.length l1) (hc1 : l1.length ≤ c1) (h : impl_isLevel.f k a0 l1 = some r) :
 Calls Tryz.prog 41 #[.int .i64 a0, .slice A1 l1.length c1] w fun e w' => e = .returned (.bool r) ∧ Drawn0 w w' := by
 have HR1 := a_ hr1;have HC1 := a_ hc1;clear hr1 hc1;have H := h;unfold impl_isLevel.f at H;clear h;have H' := a_ H;clear H;go_enter Tryz.func41, Tryz.ntmps41;go_wp2;go_loopg [9] k (fun kq v9 w' => ∃ (x9_1 : Int), v9 = .int .i64 x9_1 ∧ Aside0 (impl_isLevel.l0 kq a0 l1 l1 (l1.length : Int) x9_1 = some r) ∧ Aside0 (kq ≤ k) ∧ Drawn0 w w')
 case atStart => exact ⟨(0), rs_, H', ⟨Nat.le_refl _⟩, dr_⟩
 case round =>
  clear H';obtain ⟨x9_1, rfl, HA, HK1, ⟨m1, rfl⟩⟩ := hrel
  cases gk with
  | zero => exact absurd HA.out (by simp [impl_isLevel.l0])
  | succ k1 =>
   have H := HA.out;clear HA;simp only [impl_isLevel.l0] at H;rcases ib_ H with ⟨c3, H⟩ | ⟨c3, H⟩
   ·have c3b0 := decide_eq_false c3;clear c3;obtain rfl := s1_ H;go_wp2;go_ret;exact ⟨rs_, dr_⟩
   have c3b0 := decide_eq_true c3;clear c3;obtain ⟨c4b0, H⟩ := ic_ H;obtain ⟨c5b0, H⟩ := ic_ H;obtain ⟨t373, A6, H⟩ := ob_ H;(try dsimp only at H);replace H := bc_ H;rcases H with ⟨rfl, H⟩ | ⟨rfl, H⟩
   ·obtain rfl := s1_ H;obtain ⟨ad372, e372, hx372_0, p372, q372⟩ := ai_ HR1.out x9_1
    cases e372;go_wp2_with (first | ((with_reducible refine gc_ 67 ?_);refine gn_ (some 17) Tryz.func67 (impl_between.calls (rd l1 x9_1) 0 (wrap64 (a0 - 2)) false _ A6.out) rfl ?_;rintro w' ⟨nd, rfl⟩));go_ret;exact ⟨rs_, dr_⟩
   rcases ib_ H with ⟨c8, H⟩ | ⟨c8, H⟩
   ·have c8b0 := dgf_ c8;clear c8;have H' := a_ H;clear H;obtain ⟨ad372, e372, hx372_0, p372, q372⟩ := ai_ HR1.out x9_1
    cases e372;go_wp2_with (first | ((with_reducible refine gc_ 67 ?_);refine gn_ (some 17) Tryz.func67 (impl_between.calls (rd l1 x9_1) 0 (wrap64 (a0 - 2)) true _ A6.out) rfl ?_;rintro w' ⟨nd, rfl⟩));go_roundg k1
    case measure => have := HK1.out; omega
    case rel => exact ⟨(wrap64 (x9_1 + 1)), rs_, H', ⟨by have := HK1.out; omega⟩, dr_⟩
   have c8b0 := dgt_ c8;clear c8;obtain ⟨ji9, hji9⟩ : ∃ j_ : Int, (wrap64 (x9_1 - 1)) = j_ := ⟨_, rfl⟩;(first | rw [hji9] at H | simp only [hji9] at H)
   (try rw [hji9] at A6);have hji9w : (IntKind.i64.wrap (x9_1 - 1)) = ji9 := (i64_w _).trans hji9;obtain ⟨c10b0, H⟩ := ic_ H;obtain ⟨c11b0, H⟩ := ic_ H;rcases ij_ H with ⟨c12, H⟩ | ⟨c12, H⟩
   ·have c12b0 := decide_eq_true c12;clear c12;obtain rfl := s1_ H;obtain ⟨ad372, e372, hx372_0, p372, q372⟩ := ai_ HR1.out x9_1
    cases e372;go_wp2_with (first | ((with_reducible refine gc_ 67 ?_);refine gn_ (some 17) Tryz.func67 (impl_between.calls (rd l1 x9_1) 0 (wrap64 (a0 - 2)) true _ A6.out) rfl ?_;rintro w' ⟨nd, rfl⟩; obtain ⟨ad374, e374, hx374_0, p374, q374⟩ := ai_ HR1.out (ji9); obtain rfl : ad372 = ad374 := (by injection e374)));go_ret;exact ⟨by first | rfl | (simp; done) | (simp only [← hji9] <;> (first | rfl | simp)) | (simp [*]; done), dr_⟩
   have c12b0 := decide_eq_false c12;clear c12;have H' := a_ H;clear H;obtain ⟨ad372, e372, hx372_0, p372, q372⟩ := ai_ HR1.out x9_1
   cases e372;go_wp2_with (first | ((with_reducible refine gc_ 67 ?_);refine gn_ (some 17) Tryz.func67 (impl_between.calls (rd l1 x9_1) 0 (wrap64 (a0 - 2)) true _ A6.out) rfl ?_;rintro w' ⟨nd, rfl⟩; obtain ⟨ad374, e374, hx374_0, p374, q374⟩ := ai_ HR1.out (ji9); obtain rfl : ad372 = ad374 := (by injection e374)));go_roundg k1
   case measure => have := HK1.out; omega
   case rel => exact ⟨(wrap64 (x9_1 + 1)), rs_, H', ⟨by have := HK1.out; omega⟩, dr_⟩

/-! ### impl_checked: function 42 -/
def impl_checked.f (a0_0 : Int) (l0_1 : List Int) : Option (Int × List Int × Bool) := (impl_isLadder.f a0_0 l0_1).bind fun t377 => (if t377 = true then (some (a0_0, l0_1, true)) else (some (0, ([] : List Int), false)))
theorem impl_checked.calls (a0_0 : Int) (P0_1_ : Nat → Prop) (u9000_ : Value) (l0_1 : List Int) (r1 : Int) (r2 : List Int) (r3 : Bool) (w0 w : World) (hB : Below w0.heap.size w0 w) (ho0_1 : Kd.R (Kd.int .i64) 3 w w0.heap.size P0_1_ u9000_ l0_1) (h : impl_checked.f a0_0 l0_1 = some (r1, r2, r3)) :
 Calls Tryz.prog 42 #[.agg #[.int .i64 a0_0, u9000_]] w fun e w' => ∃ v1_ : Value, e = .returned (.tuple #[.agg #[.int .i64 r1, v1_], .bool r3]) ∧ Kd.R (Kd.int .i64) 3 w' w0.heap.size (fun k_ => (P0_1_ k_ ∨ w.heap.size ≤ k_)) v1_ r2 ∧ Below w0.heap.size w0 w' ∧ Kept w w' (fun k_ => P0_1_ k_) := by
 have hu26 := Tryz.underlying26;have HO0_1 := a_ (show Kd.R (Kd.int .i64) 3 w w0.heap.size (fun k_ => (P0_1_ k_ ∨ w.heap.size ≤ k_)) u9000_ l0_1 from Kd.R_mono ho0_1 (fun k_ hk => (.inl hk)));have HK := a_ (Kept.refl w (fun k_ => P0_1_ k_));have HW0 := a_ hB.size;have HB := a_ hB;clear hB;have H := h;unfold impl_checked.f at H;clear h;obtain ⟨t377, A2, H⟩ := ob_ H;(try dsimp only at H);replace H := bd_ H;rcases H with ⟨rfl, H⟩ | ⟨rfl, H⟩
 ·obtain ⟨rfl, rfl, rfl⟩ := s3_ H;obtain ⟨Ao4, co4, eo4⟩ := Kd.R_slice HO0_1.out;subst eo4;go_enter Tryz.func42, Tryz.ntmps42
  go_wp2_with (first | ((with_reducible refine gate_dst (N := 1) rfl ?_); refine bx_ #[.int .i64 a0_0, .slice Ao4 l0_1.length co4] 26 ?_ 1; intro gb375 hg w5 hbox hb; replace HO0_1 := a_ (Kd.R_below (Rl_ HO0_1.out) hb); have BK375 := a_ (hbox); have GW375 := a_ ((by rw [hg]; exact (by first | exact HK.out.1 | exact (show Kept w _ (fun k_ => P0_1_ k_) from Kp_ HK).1) : w.heap.size ≤ gb375)); replace HK := a_ (Kept.below (S := (fun k_ => P0_1_ k_)) (Kp_ HK) hb); have GE375 := a_ ((by rw [hg]; exact (below_size (Bl_ HB)) : w0.heap.size ≤ gb375)); replace HB := Bs_ HB hb; clear hb hbox hg) | ((with_reducible refine gate_dst (N := 2) rfl ?_); refine bx_ #[.int .i64 0, .slice none 0 0] 26 ?_ 2; intro gb376 hg w6 hbox hb; replace HO0_1 := a_ (Kd.R_below (Rl_ HO0_1.out) hb); have BK376 := a_ (hbox); have GW376 := a_ ((by rw [hg]; exact (by first | exact HK.out.1 | exact (show Kept w _ (fun k_ => P0_1_ k_) from Kp_ HK).1) : w.heap.size ≤ gb376)); replace HK := a_ (Kept.below (S := (fun k_ => P0_1_ k_)) (Kp_ HK) hb); have GE376 := a_ ((by rw [hg]; exact (below_size (Bl_ HB)) : w0.heap.size ≤ gb376)); replace HB := Bs_ HB hb; have NB375_376 := nbl_ BK375 hg; have NB376_375 := nbg_ BK375 hg; replace BK375 := blkB_ BK375 hb; clear hb hbox hg; have hnb7 := NB375_376.out; have hnc7 := NB376_375.out; obtain ⟨hcz8_0, hcz8_1, hfz8_0, hfz8_1⟩ := cf2_ BK375) | ((with_reducible refine gc_ 33 ?_);refine gn_ (some 5) Tryz.func33 (impl_isLadder.calls a0_0 _ _ l0_1 true _ (Cl_ (Kd.R_reads' HO0_1.out).2.2) ((Kd.R_reads' HO0_1.out).2.1) A2.out) rfl ?_;intro w9 hb; replace HO0_1 := a_ (Kd.R_below (Rl_ HO0_1.out) hb); replace BK375 := blkB_ BK375 hb; replace BK376 := blkB_ BK376 hb; replace HK := a_ (Kept.below (S := (fun k_ => P0_1_ k_)) (Kp_ HK) hb); replace HB := Bs_ HB hb; (try clear hb); obtain ⟨hcz10_0, hcz10_1, hfz10_0, hfz10_1⟩ := cf2_ BK375; obtain ⟨hcz11_0, hcz11_1, hfz11_0, hfz11_1⟩ := cf2_ BK376))
  refine bodyPost_ret (results_ct rfl _ _ gb376 26 #[.int .i64 a0_0, .slice Ao4 l0_1.length co4] (0, 0) _ rfl (bp_ BK376) Tryz.underlying26 rfl (by kernel_rfl)) rfl ?_;exact ⟨_, re_, Rl_ (Kd.R_mono (Kd.R_far (p := ⟨gb376, 1, none⟩) (Kd.R_far (p := ⟨gb376, 0, none⟩) (Kd.R_types HO0_1.out BK376.out (by decide)) (fun _ hk => hk.2) (.int .i64 a0_0)) (fun _ hk => hk.2) (.slice Ao4 l0_1.length co4)) (fun _ hk => hk.1)), Bl_ HB, Kp_ HK⟩
 obtain ⟨rfl, rfl, rfl⟩ := s3_ H;obtain ⟨Ao12, co12, eo12⟩ := Kd.R_slice HO0_1.out;subst eo12;go_enter Tryz.func42, Tryz.ntmps42
 go_wp2_with (first | ((with_reducible refine gate_dst (N := 1) rfl ?_); refine bx_ #[.int .i64 a0_0, .slice Ao12 l0_1.length co12] 26 ?_ 1; intro gb375 hg w13 hbox hb; replace HO0_1 := a_ (Kd.R_below (Rl_ HO0_1.out) hb); have BK375 := a_ (hbox); have GW375 := a_ ((by rw [hg]; exact (by first | exact HK.out.1 | exact (show Kept w _ (fun k_ => P0_1_ k_) from Kp_ HK).1) : w.heap.size ≤ gb375)); replace HK := a_ (Kept.below (S := (fun k_ => P0_1_ k_)) (Kp_ HK) hb); have GE375 := a_ ((by rw [hg]; exact (below_size (Bl_ HB)) : w0.heap.size ≤ gb375)); replace HB := Bs_ HB hb; clear hb hbox hg) | ((with_reducible refine gate_dst (N := 2) rfl ?_); refine bx_ #[.int .i64 0, .slice none 0 0] 26 ?_ 2; intro gb376 hg w14 hbox hb; replace HO0_1 := a_ (Kd.R_below (Rl_ HO0_1.out) hb); have BK376 := a_ (hbox); have GW376 := a_ ((by rw [hg]; exact (by first | exact HK.out.1 | exact (show Kept w _ (fun k_ => P0_1_ k_) from Kp_ HK).1) : w.heap.size ≤ gb376)); replace HK := a_ (Kept.below (S := (fun k_ => P0_1_ k_)) (Kp_ HK) hb); have GE376 := a_ ((by rw [hg]; exact (below_size (Bl_ HB)) : w0.heap.size ≤ gb376)); replace HB := Bs_ HB hb; have NB375_376 := nbl_ BK375 hg; have NB376_375 := nbg_ BK375 hg; replace BK375 := blkB_ BK375 hb; clear hb hbox hg; have hnb15 := NB375_376.out; have hnc15 := NB376_375.out; obtain ⟨hcz16_0, hcz16_1, hfz16_0, hfz16_1⟩ := cf2_ BK375) | ((with_reducible refine gc_ 33 ?_);refine gn_ (some 5) Tryz.func33 (impl_isLadder.calls a0_0 _ _ l0_1 false _ (Cl_ (Kd.R_reads' HO0_1.out).2.2) ((Kd.R_reads' HO0_1.out).2.1) A2.out) rfl ?_;intro w17 hb; replace HO0_1 := a_ (Kd.R_below (Rl_ HO0_1.out) hb); replace BK375 := blkB_ BK375 hb; replace BK376 := blkB_ BK376 hb; replace HK := a_ (Kept.below (S := (fun k_ => P0_1_ k_)) (Kp_ HK) hb); replace HB := Bs_ HB hb; (try clear hb); obtain ⟨hcz18_0, hcz18_1, hfz18_0, hfz18_1⟩ := cf2_ BK376))
 refine bodyPost_ret (results_ct rfl _ _ gb376 26 #[.int .i64 0, .slice none 0 0] (0, 0) _ rfl (bp_ BK376) Tryz.underlying26 rfl (by kernel_rfl)) rfl ?_;exact ⟨_, re_, nl_, Bl_ HB, Kp_ HK⟩

/-! ### slices_Grow_int_int: function 77 -/
theorem grow_info : ∃ i, Tryz.prog.info? 3 = some i ∧ i.size = 1 := by
  obtain ⟨i0, hi, hzz⟩ := Option.map_eq_some_iff.1 info3
  simp only [Prod.mk.injEq] at hzz
  exact ⟨i0, hi, hzz.2.1⟩
theorem GrowNil_calls (m : Nat) (hm : m ≤ 10000000) (w : World) :
 Calls Tryz.prog 77 #[.slice none 0 0, .int .i64 (m : Int)] w fun e w' => ∃ v0_ : Value, e = .returned v0_ ∧ Kd.R (Kd.int .i64) 3 w' w.heap.size (fun _ => True) v0_ [] ∧ Below w.heap.size w w' := by
 -- ONLY
 have d1 : decide ((m : Int) < 0) = false := decide_eq_false (by omega)
 have ew : wrap64 (m : Int) = (m : Int) := by unfold wrap64; omega
 have HM := Lib.hid hm;by_cases h0 : m = 0
 ·subst h0;clear hm ew;go_enter Tryz.func77, Tryz.ntmps77;go_wp2;go_ret;exact ⟨_, rfl, Kd.R_nil _ _ _ _ _, Below.refl _ _⟩
 ·have d2 : decide ((0 : Int) < (m : Int)) = true := decide_eq_true (by clear ew; omega);have d3 : decide (0 < m) = true := decide_eq_true (by clear ew; omega);clear hm h0;go_enter Tryz.func77, Tryz.ntmps77;go_wp2_with (first | ((with_reducible refine gate_builtin (b := .append) (xs := #[.tmp 20, .tmp 21]) rfl ?_); at_builtin; (refine Kd.R_append_zeros (Kd.int .i64) (w0 := w) w.heap.size rfl (.tmp 20) (.tmp 21) 24 3 3 (.int .i64 0) 8 rfl Tryz.underlying24 Tryz.underlying3 info3 rfl (by decide) (by omega) (.slice none 0 0) [] 0 (wrap64 (m : Int)) (fun _ => True) rfl rfl ?aZ (fun _ _ => trivial) ?aO ?a0 ?aB ?aS ?aL ?_; (case aZ => exact rfl); (case aO => exact Kd.R_nil _ _ _ _ _); (case a0 => rw [ew]; exact Int.natCast_nonneg m); (case aB => exact Below.refl _ _); (case aS => exact Nat.le_refl _); (case aL => exact (by rw [ew]; have := HM.out; simp; clear ew d1 d2 d3; omega)); intro v1 w1 ho hb hg hat; obtain ⟨A1, c1, e1⟩ := Kd.R_slice ho; subst e1; have hsl2 := (print_take_of (P := Tryz.prog) (Value.int .i64) 0 24 3 .i64 Tryz.underlying24 grow_info.choose_spec.1 grow_info.choose_spec.2 A1 c1 ([] ++ List.replicate (wrap64 (m : Int)).toNat (0 : Int)) 0 (Int.le_refl _) (Int.natCast_nonneg _) (Kd.R_reads' ho).2.1).1; have HO := a_ (Kd.R_take ho (Nat.zero_le _)); have HB := a_ hb; clear ho hb hg hat)));go_ret;exact ⟨_, rfl, HO.out, HB.out⟩


/-! ### slices_Concat_int_int: function 43 -/
theorem flat_le {ls : List (List Int)} {i : Nat} (h : i < ls.length) : (ls.take i).flatten.length + ls[i].length = (ls.take (i+1)).flatten.length ∧ (ls.take (i + 1)).flatten.length ≤ ls.flatten.length := by
  constructor
  · rw [List.take_succ_eq_append_getElem h, List.flatten_append]; simp
  · have e := congrArg (fun l => (List.flatten l).length) (List.take_append_drop (i+1) ls)
    simp only [List.flatten_append, List.length_append] at e
    omega
theorem flat_next {ls : List (List Int)} {i : Nat} (h : i < ls.length) : (ls.take i).flatten ++ ls[i] = (ls.take (i+1)).flatten := by
  rw [List.take_succ_eq_append_getElem h, List.flatten_append]; simp
theorem ConcatS_calls (A0 : Option Addr) (c0 : Nat) (l0 : List (List Int)) (w : World) (hm : l0.length ≤ 10000000) (ht : l0.flatten.length ≤ 10000000)
 (hr0 : Kd.C (Kd.slice 3 (Kd.int .i64)) w A0 l0.length l0) :
 Calls Tryz.prog 43 #[.slice A0 l0.length c0] w fun e w' => ∃ v0_ : Value, e = .returned v0_ ∧ Kd.R (Kd.int .i64) 3 w' w.heap.size (fun _ => True) v0_ l0.flatten ∧ Below w.heap.size w w' := by
 -- ONLY 77
 have HM := Lib.hid hm;have HT := Lib.hid ht;have HR := a_ hr0;clear hr0 hm ht;go_enter Tryz.func43, Tryz.ntmps43;go_wp2;go_loopg [3, 5, 11] l0.length (fun gg s3 _ s11 wr => ∃ kk q : Nat, kk ≤ l0.length ∧ l0.length - kk ≤ gg ∧ s3 = .int .i64 ((l0.take kk).flatten.length : Nat) ∧ s11 = .int .i64 kk ∧ wr = w.drewN q)
 case atStart => exact ⟨0, 0, Nat.zero_le _, by omega, rfl, rfl, rfl⟩
 case round =>
  obtain ⟨kk, q, hkk, hg, rfl, rfl, rfl⟩ := hrel;by_cases hlt : kk < l0.length
  ·have hltz : (kk : Int) < (l0.length : Int) := by omega
   obtain ⟨ad, Ax, cx, ead, hcell, hcx, hCx⟩ := lists_at HR.out kk hlt
   cases ead
   obtain ⟨f1, f2⟩ := flat_le hlt;have hT := HT.out;generalize hy : l0[kk] = y at hcell f1;generalize hz : (l0.take kk).flatten.length = z at f1 ⊢;have d1 : decide (wrap64 ((z : Int) + (y.length : Int)) < 0) = false := decide_eq_false (by unfold wrap64; omega)
   have ew : wrap64 ((z : Int) + (y.length : Int)) = ((z + y.length : Nat) : Int) := by unfold wrap64; omega
   have d2 : decide ((z : Int) + (y.length : Int) < 0) = false := decide_eq_false (by clear ew d1; omega);have EW := Lib.hid ew;have F1 := a_ f1;clear hCx hcx ew f1 f2 hT hy hz;have hm : l0.length ≤ 10000000 := HM.out;go_wp2;go_roundg (l0.length - (kk + 1))
   case measure => clear d1 d2; omega
   case rel =>
    clear d1 d2; refine ⟨kk + 1, _, by omega, by omega, ?_, by go_num, rfl⟩;rw [← F1.out];exact congrArg _ EW.out
  ·have hltz : ¬ (kk : Int) < (l0.length : Int) := by omega
   have : kk = l0.length := by omega
   have e2 : (l0.take kk).flatten.length = l0.flatten.length := by rw [this, List.take_length]
   rw [e2];generalize hgl : l0.flatten.length = tl;clear e2 this;have HT2 := Lib.hid (show tl ≤ 10000000 by rw [← hgl]; exact HT.out);clear hgl;go_wp2_with (go_at_call 77; refine (GrowNil_calls tl HT2.out (w.drewN q)).mono ?_; rintro e w1 ⟨v1, rfl, ho, hb⟩; have HO := a_ (show Kd.R (Kd.int .i64) 3 w1 w.heap.size (fun _ => True) v1 [] from ho); have HB := a_ (show Below w.heap.size w w1 from below_step (pw_below_drewN (Below.refl _ w) q) hb); clear ho hb);clear hltz hlt HT2 hkk hg;go_loopg [6, 8, 27] l0.length (fun gg s6 _ s27 wr => ∃ kk : Nat, kk ≤ l0.length ∧ l0.length - kk ≤ gg ∧ s27 = .int .i64 kk ∧ Aside0 (Kd.R (Kd.int .i64) 3 wr w.heap.size (fun _ => True) s6 (l0.take kk).flatten) ∧ Aside0 (Below w.heap.size w wr))
   case atStart => exact ⟨0, Nat.zero_le _, by omega, rfl, HO, HB⟩
   case round =>
    clear HO HB;obtain ⟨kk, hkk, hg, rfl, HO, HB⟩ := hrel;by_cases hlt : kk < l0.length
    ·have hltz : (kk : Int) < (l0.length : Int) := by omega
     obtain ⟨ad, Ax, cx, ead, hcell0, hcx, hCx0⟩ := lists_at HR.out kk hlt;obtain ⟨ad', Ax', cx', ead', hcell, hcx', hCx⟩ := lists_at (Kd.C_below HR.out HB.out) kk hlt
     cases ead
     cases ead'
     clear hcell0 hCx0 hcx;obtain ⟨f1, f2⟩ := flat_le hlt;have hT := HT.out;have hm : l0.length ≤ 10000000 := HM.out
     have hb : (((l0.take kk).flatten.length) + l0[kk].length) * 8 ≤ 140737488355328 := by omega
     have F := a_ (flat_next hlt);generalize hy : l0[kk] = y at hcell hcx' hCx hb F;generalize hz : (l0.take kk).flatten = z at hb HO F;have HC := a_ hCx;have HY := a_ hb;clear hCx hb hy hz f1 f2 hT;go_wp2_with (first | ((with_reducible refine gate_builtin (b := .append) (xs := #[.tmp 31, .tmp 32]) rfl ?_); at_builtin; go_loud (refine Kd.R_append_rows (Kd.int .i64) (w0 := w) w.heap.size rfl (.tmp 31) (.tmp 32) 24 3 (.int .i64 0) 8 rfl Tryz.underlying24 info3 rfl (by decide) (by omega) u6 z y _ _ _ (fun _ => True) (fun _ => False) rfl rfl ?aO ?aR (fun _ _ h => h) (fun _ h => h.elim) (fun _ _ => trivial) ?aB ?aS ?aL ?_; (case aR => exact HC.out); (case aB => exact HB.out); (case aO => exact HO.out); (case aS => exact below_size HB.out); (case aL => exact HY.out); intro v1 w1 ho hb hg hat; have HO2 := a_ ho; have HB2 := a_ hb; clear ho hb hg hat)));go_roundg (l0.length - (kk + 1))
     case measure => omega
     case rel => exact ⟨kk + 1, by omega, by omega, by go_num, ⟨by rw [← F.out]; exact HO2.out⟩, HB2⟩
    ·have hltz : ¬ (kk : Int) < (l0.length : Int) := by omega
     have : kk = l0.length := by omega
     have HO2 : Aside0 (Kd.R (Kd.int .i64) 3 wr w.heap.size (fun _ => True) u6 l0.flatten) := ⟨by have := HO.out; rwa [‹kk = l0.length›, List.take_length] at this⟩;clear this HO;go_wp2;go_ret;exact ⟨_, rfl, HO2.out, HB.out⟩


/-! ### impl_LadderOfLevels: function 14 -/
-- ONLY 42 41 38 39 43
/-- is a level refused? with so many rounds -/
def notLv (k : Nat) (a : Int) (x : List Int) : Bool := !((impl_isLevel.f k a x).getD true)
def levAll (k : Nat) (a : Int) : List (List Int) → Option Bool
  | [] => some false
  | x :: l => (impl_isLevel.f k a x).bind fun b => (levAll k a l).bind fun c => some (!b || c)
theorem levAll_mono (k : Nat) (a : Int) : ∀ ls, LeO (levAll k a ls) (levAll (k + 1) a ls)
  | [] => LeO.refl _
  | _ :: l => LeO.bind (impl_isLevel.mono _ _ _) fun _ => LeO.bind (levAll_mono k a l) fun _ => LeO.refl _
theorem levAll_some {k : Nat} {a : Int} : ∀ {ls : List (List Int)} {c : Bool}, levAll k a ls = some c → ∀ x ∈ ls, impl_isLevel.f k a x = some (!(notLv k a x))
  | [], _, _, x, hx => by cases hx
  | y :: l, c, h, x, hx => by
    unfold levAll at h
    replace h := Option.bind_eq_some_iff.mp h
    obtain ⟨b, hb, h⟩ := h
    replace h := Option.bind_eq_some_iff.mp h
    obtain ⟨d, hd, h⟩ := h
    rcases List.mem_cons.mp hx with rfl | hx
    · simp [notLv, hb]
    · exact levAll_some hd x hx
theorem levAll_any {k : Nat} {a : Int} : ∀ {ls : List (List Int)} {c : Bool}, levAll k a ls = some c → ls.any (notLv k a) = c
  | [], c, h => by simpa [levAll] using h
  | y :: l, c, h => by
    unfold levAll at h
    replace h := Option.bind_eq_some_iff.mp h
    obtain ⟨b, hb, h⟩ := h
    replace h := Option.bind_eq_some_iff.mp h
    obtain ⟨d, hd, h⟩ := h
    have := levAll_any hd
    simp only [List.any_cons, this]
    injection h with h
    rw [← h]
    simp [notLv, hb]
def impl_LadderOfLevels.f (k : Nat) (a : Int) (l1 : List (List Int)) : Option (Int × List Int × Bool) := (impl_isWires.f a).bind fun t => if t = true then (if 60 < l1.length then some (0, [], false) else (levAll k a l1).bind fun c => if c = true then some (0, [], false) else (if l1.flatten.length ≤ 10000000 then impl_checked.f a l1.flatten else none)) else some (0, [], false)
theorem impl_LadderOfLevels.mono : ∀ a0 a1 k, LeO (impl_LadderOfLevels.f k a0 a1) (impl_LadderOfLevels.f (k + 1) a0 a1) := by
  intro a0 a1 k
  unfold impl_LadderOfLevels.f
  exact LeO.bind (LeO.refl _) fun _ => LeO.ite (LeO.ite (LeO.refl _) (LeO.bind (levAll_mono _ _ _) fun _ => LeO.refl _)) (LeO.refl _)
theorem skip_stepQ {P : Program} {ops : Array Oper} {o : Oper} {a : Act} {Q : Exit → Act → World → Prop} {Kc : Act → World → Prop} {W w1 : World} (hw : Region.wanted o (yielded ops a.tmps) = true) (hN : o.dst = none) (hrun : (execOp a.eval o).run P W = .ok .skip w1) (h : Kc a w1) : if Region.wanted o (yielded ops a.tmps) = true then Oper.wp P o a W Kc Q else Kc (a.put o.dst undef) W := by
  rw [if_pos hw]
  unfold Oper.wp
  rw [hrun]
  show Kc (a.put o.dst undef) w1
  rw [hN]
  exact h
theorem lol1_enters : ∀ args w, (callFunc 40 args).run Tryz.prog w = .ok (.enter 40 args) w := enters_of Tryz.func40 (by kernel_rfl) rfl
theorem lol1_calls (k : Nat) (a : Int) (x : List Int) (b : Bool) (h : impl_isLevel.f k a x = some (!b)) (B : Nat) (W : World) (hcell : W.cell? ⟨B, 0, none⟩ = some (.int .i64 a)) (Ax : Option Addr) (cx : Nat) (hr : Kd.C (Kd.int .i64) W Ax x.length x) (hc : x.length ≤ cx) :
 Calls Tryz.prog 40 (#[.slice Ax x.length cx] ++ #[.pointer (some ⟨B, 0, none⟩)]) W fun e w' => e = .returned (.bool b) ∧ Drawn0 W w' := by
 have H := a_ h;have HR := a_ hr;have HC := a_ hc;clear h hr hc;show Calls Tryz.prog 40 #[.slice Ax x.length cx, .pointer (some ⟨B, 0, none⟩)] W _;go_enter Tryz.func40, Tryz.ntmps40;go_wp2_with (go_at_call 41; refine (impl_isLevel.calls k a Ax cx x _ _ ?hrC HC.out H.out).mono ?_; (case hrC => repeat (first | exact HR.out | refine Kd.C_drewN ?_ _ | refine Kd.C_drew ?_)); rintro e w' ⟨rfl, ⟨q, rfl⟩⟩);go_ret;exact ⟨by simp, ⟨q, rfl⟩⟩
theorem impl_LadderOfLevels.calls (k : Nat) (a : Int) (A1 : Option Addr) (c1 : Nat) (l1 : List (List Int)) (r1 : Int) (r2 : List Int) (r3 : Bool) (w : World) (hr1 : Kd.C (Kd.slice 3 (Kd.int .i64)) w A1 l1.length l1) (hc1 : l1.length ≤ c1) (h : impl_LadderOfLevels.f k a l1 = some (r1, r2, r3)) :
 Calls Tryz.prog 14 #[.int .i64 a, .slice A1 l1.length c1] w fun e w' => ∃ v1_ : Value, e = .returned (.tuple #[.agg #[.int .i64 r1, v1_], .bool r3]) ∧ Kd.R (Kd.int .i64) 3 w' w.heap.size (fun _ => True) v1_ r2 ∧ Below w.heap.size w w' := by
 have hu28 := Tryz.underlying26;have HR := a_ hr1;have HC := a_ hc1;have HB := a_ (Below.refl w.heap.size w);replace h := Option.bind_eq_some_iff.mp h;obtain ⟨t, ht, h⟩ := h;have HW := a_ ht;clear hr1 hc1 ht
 cases t with
 | false =>
  rw [if_neg (by simp)] at h;simp only [Option.some.injEq, Prod.mk.injEq] at h;obtain ⟨rfl, rfl, rfl⟩ := h;go_enter Tryz.func14, Tryz.ntmps14;go_wp2_with (first | ((with_reducible refine gate_dst (N := 2) rfl ?_); refine box_event ?hg (N := 2) ?hd (cs := #[.int .i64 a]) (t := 3) ?hr ?_; (case hd => rfl); (case hg => rfl); (case hr => first | (go_simp; done) | (go_simp; rfl)); intro gl hg w1 hbox hb; have GL := a_ ((by rw [hg]; exact below_size HB.out) : w.heap.size ≤ gl); have n0_ := a_ (below_step HB.out hb); clear HB; have HB := n0_; clear n0_; have BKL := a_ hbox; clear hbox hb hg) | ((with_reducible refine gate_dst (N := 4) rfl ?_); refine box_event ?hg (N := 4) ?hd (cs := #[.int .i64 0, .slice none 0 0]) (t := 26) ?hr ?_; (case hd => rfl); (case hg => rfl); (case hr => first | (go_simp; done) | (go_simp; rfl)); intro gr hg w2 hbox hb; have GR := a_ ((by rw [hg]; exact below_size HB.out) : w.heap.size ≤ gr); have NLR := a_ ((by rw [hg]; exact Nat.ne_of_lt (blk_lt BKL.out)) : gl ≠ gr); have n0_ := a_ (below_step HB.out hb); have n1_ := a_ (blk_below BKL.out hb); clear HB BKL; have HB := n0_; have BKL := n1_; clear n0_ n1_; have BKR := a_ hbox; clear hbox hb hg; have hcz0 : w2.cell? ⟨gl, 0, none⟩ = some (.int .i64 a) := (blk_cell BKL.out 0).trans rfl; have hfz0 := blk_frozen BKL.out 0; have hcr0 : w2.cell? ⟨gr, 0, none⟩ = some (.int .i64 0) := (blk_cell BKR.out 0).trans rfl; have hcr1 : w2.cell? ⟨gr, 1, none⟩ = some (.slice none 0 0) := (blk_cell BKR.out 1).trans rfl; have hfr0 := blk_frozen BKR.out 0; have hfr1 := blk_frozen BKR.out 1) | ((with_reducible refine (impl_isWires.calls a false _ HW.out).mono ?_); rintro e w' ⟨rfl, ⟨q1, rfl⟩⟩))
  refine bodyPost_ret (results_ct rfl _ _ gr 26 #[.int .i64 0, .slice none 0 0] (0, 0) _ rfl (by (with_reducible repeat (first | refine blk_drewN ?_ _ | refine blk_drew ?_ | refine blk_alloc ?_ _)); refine blk_put (cs := #[.int .i64 0, .slice none 0 0]) ?_ 1 _ rfl; (with_reducible repeat (first | refine blk_drewN ?_ _ | refine blk_drew ?_ | refine blk_alloc ?_ _)); refine blk_put (cs := #[.int .i64 0, .slice none 0 0]) ?_ 0 _ rfl; (with_reducible repeat (first | refine blk_drewN ?_ _ | refine blk_drew ?_ | refine blk_alloc ?_ _)); exact BKR.out) Tryz.underlying26 rfl (by kernel_rfl)) rfl ?_;exact ⟨_, rfl, Kd.R_nil _ _ _ _ _, by repeat (first | (with_reducible first | exact HB.out | apply below_alloc | apply pw_below_drewN | apply below_drew1 | refine below_set ?_ GR.out) | exact HB.out)⟩
 | true =>
  rw [if_pos rfl] at h;by_cases h60 : 60 < l1.length
  ·rw [if_pos h60] at h;simp only [Option.some.injEq, Prod.mk.injEq] at h;obtain ⟨rfl, rfl, rfl⟩ := h;have d1 : decide ((60 : Int) < (l1.length : Int)) = true := decide_eq_true (by omega);have d2 : decide ((l1.length : Int) > 60) = true := decide_eq_true (by omega);have d3 : decide (60 < l1.length) = true := decide_eq_true h60;clear h60;go_enter Tryz.func14, Tryz.ntmps14;go_wp2_with (first | ((with_reducible refine gate_dst (N := 2) rfl ?_); refine box_event ?hg (N := 2) ?hd (cs := #[.int .i64 a]) (t := 3) ?hr ?_; (case hd => rfl); (case hg => rfl); (case hr => first | (go_simp; done) | (go_simp; rfl)); intro gl hg w1 hbox hb; have GL := a_ ((by rw [hg]; exact below_size HB.out) : w.heap.size ≤ gl); have n0_ := a_ (below_step HB.out hb); clear HB; have HB := n0_; clear n0_; have BKL := a_ hbox; clear hbox hb hg) | ((with_reducible refine gate_dst (N := 4) rfl ?_); refine box_event ?hg (N := 4) ?hd (cs := #[.int .i64 0, .slice none 0 0]) (t := 26) ?hr ?_; (case hd => rfl); (case hg => rfl); (case hr => first | (go_simp; done) | (go_simp; rfl)); intro gr hg w2 hbox hb; have GR := a_ ((by rw [hg]; exact below_size HB.out) : w.heap.size ≤ gr); have NLR := a_ ((by rw [hg]; exact Nat.ne_of_lt (blk_lt BKL.out)) : gl ≠ gr); have n0_ := a_ (below_step HB.out hb); have n1_ := a_ (blk_below BKL.out hb); clear HB BKL; have HB := n0_; have BKL := n1_; clear n0_ n1_; have BKR := a_ hbox; clear hbox hb hg; have hcz0 : w2.cell? ⟨gl, 0, none⟩ = some (.int .i64 a) := (blk_cell BKL.out 0).trans rfl; have hfz0 := blk_frozen BKL.out 0; have hcr0 : w2.cell? ⟨gr, 0, none⟩ = some (.int .i64 0) := (blk_cell BKR.out 0).trans rfl; have hcr1 : w2.cell? ⟨gr, 1, none⟩ = some (.slice none 0 0) := (blk_cell BKR.out 1).trans rfl; have hfr0 := blk_frozen BKR.out 0; have hfr1 := blk_frozen BKR.out 1) | ((with_reducible refine (impl_isWires.calls a true _ HW.out).mono ?_); rintro e w' ⟨rfl, ⟨q1, rfl⟩⟩))
   refine bodyPost_ret (results_ct rfl _ _ gr 26 #[.int .i64 0, .slice none 0 0] (0, 0) _ rfl (by (with_reducible repeat (first | refine blk_drewN ?_ _ | refine blk_drew ?_ | refine blk_alloc ?_ _)); refine blk_put (cs := #[.int .i64 0, .slice none 0 0]) ?_ 1 _ rfl; (with_reducible repeat (first | refine blk_drewN ?_ _ | refine blk_drew ?_ | refine blk_alloc ?_ _)); refine blk_put (cs := #[.int .i64 0, .slice none 0 0]) ?_ 0 _ rfl; (with_reducible repeat (first | refine blk_drewN ?_ _ | refine blk_drew ?_ | refine blk_alloc ?_ _)); exact BKR.out) Tryz.underlying26 rfl (by kernel_rfl)) rfl ?_;exact ⟨_, rfl, Kd.R_nil _ _ _ _ _, by repeat (first | (with_reducible first | exact HB.out | apply below_alloc | apply pw_below_drewN | apply below_drew1 | refine below_set ?_ GR.out) | exact HB.out)⟩
  ·rw [if_neg h60] at h;have d1 : decide ((60 : Int) < (l1.length : Int)) = false := decide_eq_false (by omega);have d2 : decide ((l1.length : Int) > 60) = false := decide_eq_false (by omega);have d3 : decide (60 < l1.length) = false := decide_eq_false h60;have HMX := Lib.hid (show l1.length ≤ 9223372036854775807 by omega);have HM60 := Lib.hid (show l1.length ≤ 10000000 by omega);clear h60;replace h := Option.bind_eq_some_iff.mp h;obtain ⟨c, hcl, h⟩ := h;have HA := a_ hcl;have hany := levAll_any hcl;clear hcl
   cases c with
   | true =>
    rw [if_pos rfl] at h;simp only [Option.some.injEq, Prod.mk.injEq] at h;obtain ⟨rfl, rfl, rfl⟩ := h;go_enter Tryz.func14, Tryz.ntmps14
    go_wp2_with (first | ((with_reducible refine gate_dst (N := 2) rfl ?_); refine box_event ?hg (N := 2) ?hd (cs := #[.int .i64 a]) (t := 3) ?hr ?_; (case hd => rfl); (case hg => rfl); (case hr => first | (go_simp; done) | (go_simp; rfl)); intro gl hg w1 hbox hb; have GL := a_ ((by rw [hg]; exact below_size HB.out) : w.heap.size ≤ gl); have n0_ := a_ (below_step HB.out hb); clear HB; have HB := n0_; clear n0_; have BKL := a_ hbox; clear hbox hb hg) | ((with_reducible refine gate_dst (N := 4) rfl ?_); refine box_event ?hg (N := 4) ?hd (cs := #[.int .i64 0, .slice none 0 0]) (t := 26) ?hr ?_; (case hd => rfl); (case hg => rfl); (case hr => first | (go_simp; done) | (go_simp; rfl)); intro gr hg w2 hbox hb; have GR := a_ ((by rw [hg]; exact below_size HB.out) : w.heap.size ≤ gr); have NLR := a_ ((by rw [hg]; exact Nat.ne_of_lt (blk_lt BKL.out)) : gl ≠ gr); have n0_ := a_ (below_step HB.out hb); have n1_ := a_ (blk_below BKL.out hb); clear HB BKL; have HB := n0_; have BKL := n1_; clear n0_ n1_; have BKR := a_ hbox; clear hbox hb hg; have hcz0 : w2.cell? ⟨gl, 0, none⟩ = some (.int .i64 a) := (blk_cell BKL.out 0).trans rfl; have hfz0 := blk_frozen BKL.out 0; have hcr0 : w2.cell? ⟨gr, 0, none⟩ = some (.int .i64 0) := (blk_cell BKR.out 0).trans rfl; have hcr1 : w2.cell? ⟨gr, 1, none⟩ = some (.slice none 0 0) := (blk_cell BKR.out 1).trans rfl; have hfr0 := blk_frozen BKR.out 0; have hfr1 := blk_frozen BKR.out 1) | ((with_reducible refine (impl_isWires.calls a true _ HW.out).mono ?_); rintro e w' ⟨rfl, ⟨q1, rfl⟩⟩) | (go_at_call 39; refine (ContainsFuncSS_calls (notLv k a) 40 #[.pointer (some ⟨gl, 0, none⟩)] lol1_enters A1 c1 l1 _ HMX.out (Kd.C_below HR.out (by repeat (first | exact HB.out | apply pw_below_drewN))) ?hpC).mono ?_; (case hpC => intro W x Ax cx hx hb hC hcx; exact lol1_calls k a x _ (levAll_some HA.out x hx) gl W ((hb.cell (p := ⟨gl, 0, none⟩) (blk_lt (by (with_reducible repeat (first | refine blk_drewN ?_ _ | refine blk_drew ?_ | refine blk_alloc ?_ _)); exact BKL.out))).trans ((blk_cell (by (with_reducible repeat (first | refine blk_drewN ?_ _ | refine blk_drew ?_ | refine blk_alloc ?_ _)); exact BKL.out) 0).trans rfl)) Ax cx hC hcx); rintro e w' ⟨rfl, ⟨q2, rfl⟩⟩))
    refine bodyPost_ret (results_ct rfl _ _ gr 26 #[.int .i64 0, .slice none 0 0] (0, 0) _ rfl (by (with_reducible repeat (first | refine blk_drewN ?_ _ | refine blk_drew ?_ | refine blk_alloc ?_ _)); refine blk_put (cs := #[.int .i64 0, .slice none 0 0]) ?_ 1 _ rfl; (with_reducible repeat (first | refine blk_drewN ?_ _ | refine blk_drew ?_ | refine blk_alloc ?_ _)); refine blk_put (cs := #[.int .i64 0, .slice none 0 0]) ?_ 0 _ rfl; (with_reducible repeat (first | refine blk_drewN ?_ _ | refine blk_drew ?_ | refine blk_alloc ?_ _)); exact BKR.out) Tryz.underlying26 rfl (by kernel_rfl)) rfl ?_;exact ⟨_, rfl, Kd.R_nil _ _ _ _ _, by repeat (first | (with_reducible first | exact HB.out | apply below_alloc | apply pw_below_drewN | apply below_drew1 | refine below_set ?_ GR.out) | exact HB.out)⟩
   | false =>
    rw [if_neg (by simp)] at h;by_cases hfl : l1.flatten.length ≤ 10000000
    case neg => rw [if_neg hfl] at h; cases h
    rw [if_pos hfl] at h;have HF := Lib.hid hfl;have HK := a_ h;clear h hfl;generalize hfl : l1.flatten = fl at HK;have HFL := a_ hfl;clear hfl;go_enter Tryz.func14, Tryz.ntmps14
    go_wp2_with (first | ((with_reducible refine gate_dst (N := 2) rfl ?_); refine box_event ?hg (N := 2) ?hd (cs := #[.int .i64 a]) (t := 3) ?hr ?_; (case hd => rfl); (case hg => rfl); (case hr => first | (go_simp; done) | (go_simp; rfl)); intro gl hg w1 hbox hb; have GL := a_ ((by rw [hg]; exact below_size HB.out) : w.heap.size ≤ gl); have n0_ := a_ (below_step HB.out hb); clear HB; have HB := n0_; clear n0_; have BKL := a_ hbox; clear hbox hb hg) | ((with_reducible refine gate_dst (N := 4) rfl ?_); refine box_event ?hg (N := 4) ?hd (cs := #[.int .i64 0, .slice none 0 0]) (t := 26) ?hr ?_; (case hd => rfl); (case hg => rfl); (case hr => first | (go_simp; done) | (go_simp; rfl)); intro gr hg w2 hbox hb; have GR := a_ ((by rw [hg]; exact below_size HB.out) : w.heap.size ≤ gr); have NLR := a_ ((by rw [hg]; exact Nat.ne_of_lt (blk_lt BKL.out)) : gl ≠ gr); have n0_ := a_ (below_step HB.out hb); have n1_ := a_ (blk_below BKL.out hb); clear HB BKL; have HB := n0_; have BKL := n1_; clear n0_ n1_; have BKR := a_ hbox; clear hbox hb hg; have hcz0 : w2.cell? ⟨gl, 0, none⟩ = some (.int .i64 a) := (blk_cell BKL.out 0).trans rfl; have hfz0 := blk_frozen BKL.out 0; have hcr0 : w2.cell? ⟨gr, 0, none⟩ = some (.int .i64 0) := (blk_cell BKR.out 0).trans rfl; have hcr1 : w2.cell? ⟨gr, 1, none⟩ = some (.slice none 0 0) := (blk_cell BKR.out 1).trans rfl; have hfr0 := blk_frozen BKR.out 0; have hfr1 := blk_frozen BKR.out 1) | ((with_reducible refine (impl_isWires.calls a true _ HW.out).mono ?_); rintro e w' ⟨rfl, ⟨q1, rfl⟩⟩) | (go_at_call 39; refine (ContainsFuncSS_calls (notLv k a) 40 #[.pointer (some ⟨gl, 0, none⟩)] lol1_enters A1 c1 l1 _ HMX.out (Kd.C_below HR.out (by repeat (first | exact HB.out | apply pw_below_drewN))) ?hpC).mono ?_; (case hpC => intro W x Ax cx hx hb hC hcx; exact lol1_calls k a x _ (levAll_some HA.out x hx) gl W ((hb.cell (p := ⟨gl, 0, none⟩) (blk_lt (by (with_reducible repeat (first | refine blk_drewN ?_ _ | refine blk_drew ?_ | refine blk_alloc ?_ _)); exact BKL.out))).trans ((blk_cell (by (with_reducible repeat (first | refine blk_drewN ?_ _ | refine blk_drew ?_ | refine blk_alloc ?_ _)); exact BKL.out) 0).trans rfl)) Ax cx hC hcx); rintro e w' ⟨rfl, ⟨q2, rfl⟩⟩))
    have BKL2 := a_ (blk_drew (blk_drewN BKL.out (q1 + q2)));have BKR2 := a_ (blk_drew (blk_drewN BKR.out (q1 + q2)));have HB2 := a_ (below_drew1 (pw_below_drewN HB.out (q1 + q2)));clear BKL BKR HB hcz0 hfz0 hcr0 hcr1 hfr0 hfr1 d1 d2 d3 hany;refine start_ (n := 9) (S := fun w' => w'.cell? ⟨gl, 0, none⟩ = some (.int .i64 a)) (ds := []) #[false, false, false, false, false, false, false, false, false] (by kernel_rfl) rfl rfl ((blk_cell BKL2.out 0).trans rfl) (fun hHeld => ?_);generalize (w2.drewN (q1 + q2)).drew = w6 at BKL2 BKR2 HB2 hHeld ⊢;refine tk_ 0 (some 20) #[true, false, false, false, false, false, false, false, false] hHeld ?_;refine pu_ 1 (some 21) #[true, true, false, false, false, false, false, false, false] ?_;refine one_ (i := 2) (N := some 22) #[true, true, true, false, false, false, false, false, false] rfl rfl (by kernel_rfl) (by decide) (fun K hK => ?_);refine goes_ Tryz.func43 (by kernel_rfl) rfl #[.slice A1 l1.length c1] (by rfl) rfl rfl (by (try simp only [List.map_toArray, List.map_cons, List.map_nil]); first | done | rfl | (simp only [List.length_drop, List.length_take]; rfl)) ?_;(with_reducible refine (ConcatS_calls A1 c1 l1 _ HM60.out HF.out (Kd.C_below HR.out HB2.out)).mono ?_);rintro e w7 ⟨v, rfl, ho, hb⟩;refine ⟨_, rfl, ?_⟩;have BKL3 := a_ (blk_below BKL2.out hb);have BKR3 := a_ (blk_below BKR2.out hb);have HB3 := a_ (below_step HB2.out hb);have GL6 := a_ (blk_lt BKL2.out);have GR6 := a_ (blk_lt BKR2.out);rw [HFL.out] at ho;have HO3 := a_ (Kd.R_lower (Kd.R_mono (ok' := fun k_ => w6.heap.size ≤ k_) (Kd.R_bound ho) (fun _ hk => hk.2.1)) (below_size HB2.out));have W67 := a_ (below_size hb);clear BKL2 BKR2 HB2 ho hb;obtain ⟨Al, cl, el⟩ := Kd.R_slice HO3.out;subst el;refine hK.out _ _ ((blk_cell BKL3.out 0).trans rfl) (fun hHeld => ?_);clear hK K;refine norm_ (a' := ?_) ?_ ?_;rotate_left
    ·show Act.put _ (some 22) _ = _;simp only [Act.put, List.setIfInBounds_toArray, List.set_cons_zero, List.set_cons_succ, i64_w, i32_w];rfl
    refine pu_ 3 (some 23) #[true, true, true, true, false, false, false, false, false] ?_;refine one_ (i := 4) (N := some 24) #[true, true, true, true, true, false, false, false, false] rfl rfl (by kernel_rfl) (by decide) (fun K hK => ?_);refine goes_ Tryz.func42 (by kernel_rfl) rfl #[.agg #[.int .i64 a, .slice Al fl.length cl]] (by rfl) rfl rfl (by (try simp only [List.map_toArray, List.map_cons, List.map_nil]); first | done | rfl | (simp only [List.length_drop, List.length_take]; rfl)) ?_;(with_reducible refine (impl_checked.calls a (fun k_ => w6.heap.size ≤ k_) _ fl r1 r2 r3 w _ HB3.out HO3.out HK.out).mono ?_);rintro e w8 ⟨v1, rfl, ho, hb, hk⟩;refine ⟨_, rfl, ?_⟩;have BKL4 := a_ (blk_kept BKL3.out hk (by have := GL6.out; omega));have BKR4 := a_ (blk_kept BKR3.out hk (by have := GR6.out; omega));have HB4 := a_ hb;have HO4 := a_ (Kd.R_mono (ok' := fun k_ => w6.heap.size ≤ k_) ho (fun k_ hk => by rcases hk with hk | hk; exact hk; exact Nat.le_trans W67.out hk));clear BKL3 BKR3 HB3 HO3 ho hb hk;obtain ⟨Ar, cr, er⟩ := Kd.R_slice HO4.out;subst er;refine hK.out _ _ ((blk_cell BKL4.out 0).trans rfl) (fun hHeld => ?_);clear hK K;refine norm_ (a' := ?_) ?_ ?_;rotate_left
    ·show Act.put _ (some 24) _ = _;simp only [Act.put, List.setIfInBounds_toArray, List.set_cons_zero, List.set_cons_succ, i64_w, i32_w];rfl
    refine pu_ 5 (some 25) #[true, true, true, true, true, true, false, false, false] ?_;refine pu_ 6 (some 26) #[true, true, true, true, true, true, true, false, false] ?_;have hcr0 : w8.cell? ⟨gr, 0, none⟩ = some (.int .i64 0) := (blk_cell BKR4.out 0).trans rfl;have hcr1 : w8.cell? ⟨gr, 1, none⟩ = some (.slice none 0 0) := (blk_cell BKR4.out 1).trans rfl;have hfr0 := blk_frozen BKR4.out 0;have hfr1 := blk_frozen BKR4.out 1;refine one_ (i := 7) (N := none) #[true, true, true, true, true, true, true, true, false] rfl rfl (by kernel_rfl) (by decide) (fun K hK => ?_);refine skip_stepQ (by rfl) rfl (w1 := (w8.setCell ⟨gr,0,none⟩ (.int .i64 r1)).setCell ⟨gr,1,none⟩ (.slice Ar r2.length cr)) (by go_simp) ?_;have BKR5 := a_ (blk_put (blk_put BKR4.out 0 (.int .i64 r1) rfl) 1 (.slice Ar r2.length cr) rfl);have BKL5 := a_ (blk_far (blk_far BKL4.out (p := ⟨gr, 0, none⟩) NLR.out (.int .i64 r1)) (p := ⟨gr, 1, none⟩) NLR.out (.slice Ar r2.length cr));have HB5 := a_ (below_set (j := 1) (v := .slice Ar r2.length cr) (below_set (j := 0) (v := .int .i64 r1) HB4.out GR.out) GR.out);have HO5 := a_ (Kd.R_far (Kd.R_far HO4.out (p := ⟨gr, 0, none⟩) (fun k_ hk_ e_ => by have := GR6.out; rw [e_] at hk_; exact absurd this (Nat.not_lt.mpr hk_)) (.int .i64 r1)) (p := ⟨gr, 1, none⟩) (fun k_ hk_ e_ => by have := GR6.out; rw [e_] at hk_; exact absurd this (Nat.not_lt.mpr hk_)) (.slice Ar r2.length cr));refine hK.out _ _ ((blk_cell BKL5.out 0).trans rfl) (fun hHeld => ?_);clear hK K;generalize (w8.setCell ⟨gr,0,none⟩ (.int .i64 r1)).setCell ⟨gr,1,none⟩ (.slice Ar r2.length cr) = w9 at BKL5 BKR5 HB5 HO5 hHeld ⊢;refine pu_ 8 (some 5) #[true, true, true, true, true, true, true, true, true] ?_;refine done_ (by kernel_rfl) ?_;go_wp2
    refine bodyPost_ret (results_ct rfl _ _ gr 26 #[.int .i64 r1, .slice Ar r2.length cr] (0, 0) _ rfl (by (with_reducible repeat (first | refine blk_drewN ?_ _ | refine blk_drew ?_ | refine blk_alloc ?_ _)); exact BKR5.out) Tryz.underlying26 rfl (by kernel_rfl)) rfl ?_;exact ⟨_, rfl, by (with_reducible repeat (first | apply Kd.R_alloc | apply Kd.R_drewN | apply Kd.R_drew)); exact Kd.R_mono HO5.out (fun _ _ => trivial), by repeat (first | (with_reducible first | exact HB5.out | apply below_alloc | apply pw_below_drewN | apply below_drew1 | refine below_set ?_ GR.out) | exact HB5.out)⟩


/-! ### impl_over: function 97 -/
def impl_over.f (a0 : Int) (a1 : Int) : Option (Int) := if a0 = a1 then (some (wrap64 (a1 + 1))) else (if a0 = (wrap64 (a1 + 1)) then (some a1) else (some a0))
theorem impl_over.calls (a0 : Int) (a1 : Int) (r : Int) (w : World) (h : impl_over.f a0 a1 = some r) :
 Calls Tryz.prog 97 #[.int .i64 a0, .int .i64 a1] w fun e w' => e = .returned (.int .i64 r) ∧ Drawn0 w w' := by
 have H := h;unfold impl_over.f at H;clear h;rcases ij_ H with ⟨c3, H⟩ | ⟨c3, H⟩
 ·obtain ⟨c3b0, c3b1⟩ := qt_ c3;clear c3;obtain rfl := s1_ H;go_enter Tryz.func97, Tryz.ntmps97;go_wp2;go_ret;exact ⟨rs_, dr_⟩
 obtain ⟨c3b0, c3b1⟩ := qf_ c3;rcases ib_ H with ⟨c4, H⟩ | ⟨c4, H⟩
 ·obtain ⟨c4b0, c4b1⟩ := qf_ c4;obtain rfl := s1_ H;go_enter Tryz.func97, Tryz.ntmps97;go_wp2;go_ret;exact ⟨rs_, dr_⟩
 obtain ⟨c4b0, c4b1⟩ := qt_ c4;clear c4;obtain rfl := s1_ H;go_enter Tryz.func97, Tryz.ntmps97;go_wp2;go_ret;exact ⟨rs_, dr_⟩

/-! ### impl_way: function 78 -/
def impl_way.l0 : Nat → Int → List Int → List Int → Int → Int → Option (List Int)
 | 0, _, _, _, _, _ => none
 | k + 1, x1, x5, x11, x12, x13 => if x13 < x12 then (if 0 ≤ x13 then (if x13 < (x11.length : Int) then ((impl_over.f x1 (rd x11 x13)).bind fun t383 => (if x5.length < 17592186044416 then (impl_way.l0 k t383 (x5 ++ [t383]) x11 x12 (wrap64 (x13 + 1))) else (none))) else (none)) else (none)) else (some x5)
def impl_way.f (k : Nat) (a0_0 : Int) (l0_1 : List Int) (a1 : Int) : Option (List Int) := impl_way.l0 k a1 (([a1] : List Int)) l0_1 (l0_1.length : Int) 0
theorem impl_way.mono_l : ∀ k, (∀ y0 y1 y2 y3 y4, LeO (impl_way.l0 k y0 y1 y2 y3 y4) (impl_way.l0 (k + 1) y0 y1 y2 y3 y4))
 | 0 => fun _ _ _ _ _ r h => by simp [impl_way.l0] at h
 | k + 1 => by
  have ih0 := impl_way.mono_l k
  ·intro y0 y1 y2 y3 y4;unfold impl_way.l0;exact mo_
theorem impl_way.mono : ∀ a0 a1 a2 k, LeO (impl_way.f k a0 a1 a2) (impl_way.f (k + 1) a0 a1 a2) := by
 intro a0 a1 a2 k;have ih0 := impl_way.mono_l k;unfold impl_way.f;exact mo_
theorem impl_way.calls (k : Nat) (a0_0 : Int) (A0_1 : Option Addr) (c0_1 : Nat) (l0_1 : List Int) (a1 : Int) (r : List Int) (w : World) (hr0_1 : Kd.C (Kd.int .i64) w A0_1 l0_1.length l0_1) (hc0_1 : l0_1.length ≤ c0_1) (h : impl_way.f k a0_0 l0_1 a1 = some r) :
 Calls Tryz.prog 78 #[.agg #[.int .i64 a0_0, .slice A0_1 l0_1.length c0_1], .int .i64 a1] w fun e w' => ∃ v0_ : Value, e = .returned (v0_) ∧ Kd.R (Kd.int .i64) 3 w' w.heap.size (fun _ => True) v0_ r ∧ Below w.heap.size w w' := by
 have hu26 := Tryz.underlying26;have HR0_1 := a_ hr0_1;have HC0_1 := a_ hc0_1;clear hr0_1 hc0_1;have HB := a_ (Below.refl w.heap.size w);have H := h;unfold impl_way.f at H;clear h;generalize hy_ : (([a1] : List Int)) = y379 at H;have Ny379 := a_ hy_.symm;clear hy_;have H' := a_ H;clear H;go_enter Tryz.func78, Tryz.ntmps78;go_wp2_with (first | ((with_reducible refine gd_ 2 ?_);refine by_ #[.int .i64 a0_0, .slice A0_1 l0_1.length c0_1] 26 HB ?_;intro gb378 w3 BK378 GW378 HB) | ((with_reducible refine gate_dst (N := 9) rfl ?_); refine Kd.R_lit (Kd.int .i64) _ 3 ?hg (N := 9) ?hd (xs := ([a1] : List Int)) (inner := [.int .i64 a1]) (ok := fun _ => True) (okp := fun _ => True) ?hr ?hp (fun _ hk => hk) trivial (Below.refl _ _) (Nat.le_refl _) (by simp) ?_; (case hd => rfl); (case hg => rfl); (case hr => first | (go_simp; done) | (go_simp; rfl)); (case hp => exact (Reps.one (show Kd.M (Kd.int .i64) _ _ _ a1 [.int .i64 a1] from rfl) (Reps.none _ _))); intro v380 w4 ho5 hb hg_ hnew_; clear hg_ hnew_; (first | rw [← Ny379.out] at ho5 | (simp only [Int.reduceToNat] at ho5; rw [← Ny379.out] at ho5)); have HO381 := a_ (Kd.R_lower ho5 (below_size (Bl_ HB))); obtain ⟨BK378, HB⟩ := u1_ hb BK378 HB; clear hb ho5; obtain ⟨hcz6_0, hcz6_1, hfz6_0, hfz6_1⟩ := cf2_ BK378))
 go_loopg [1, 5, 13] k (fun kq v1 v5 v13 w' => ∃ (x1_1 : Int) (x5_1 : List Int) (x13_1 : Int), v1 = .int .i64 x1_1 ∧ v13 = .int .i64 x13_1 ∧ Aside0 (impl_way.l0 kq x1_1 x5_1 l0_1 (l0_1.length : Int) x13_1 = some r) ∧ Aside0 (kq ≤ k) ∧ Aside0 (Kd.R (Kd.int .i64) 3 w' w.heap.size (fun _ => True) v5 x5_1) ∧ Aside0 (w'.heap[gb378]? = some (.cells #[.int .i64 a0_0, (.slice A0_1 l0_1.length c0_1)] 26 (0, 0))) ∧ Aside0 (Below w.heap.size w w'))
 case atStart => exact ⟨(a1), (y379), (0), rs_, rs_, H', ⟨Nat.le_refl _⟩, ⟨Rl_ HO381.out⟩, ⟨bl_ BK378⟩, ⟨Bl_ HB⟩⟩
 case round =>
  clear H';(try clear hcz6_0);(try clear hcz6_1);(try clear hfz6_0);(try clear hfz6_1);obtain ⟨x1_1, x5_1, x13_1, rfl, rfl, HA, HK1, HO_5, BK378, HB⟩ := hrel
  cases gk with
  | zero => exact absurd HA.out (by simp [impl_way.l0])
  | succ k1 =>
   have H := HA.out;clear HA;simp only [impl_way.l0] at H;rcases ib_ H with ⟨c7, H⟩ | ⟨c7, H⟩
   ·have c7b0 := decide_eq_false c7;clear c7;obtain rfl := s1_ H;go_wp2;go_ret;exact ⟨_, re_, Rl_ HO_5.out, Bl_ HB⟩
   have c7b0 := decide_eq_true c7;clear c7;obtain ⟨c8b0, H⟩ := ic_ H;obtain ⟨c9b0, H⟩ := ic_ H;obtain ⟨t383, A10, H⟩ := ob_ H;(try dsimp only at H);obtain ⟨LMc11, H⟩ := ia_ H;generalize hy_ : (x5_1 ++ [t383]) = y384 at H;have Ny384 := a_ hy_.symm;clear hy_;have H' := a_ H;clear H;obtain ⟨ad382, e382, hx382_0, p382, q382⟩ := ah_ HR0_1 HB x13_1
   cases e382;go_wp2_with (first | ((with_reducible refine gc_ 97 ?_);refine gn_ (some 19) Tryz.func97 (impl_over.calls x1_1 (rd l0_1 x13_1) t383 _ A10.out) rfl ?_;rintro w' ⟨nd, rfl⟩) | ((with_reducible refine gate_builtin (b := .append) (xs := #[.tmp 20, .tmp 22]) rfl ?_); at_builtin; refine Kd.R_append (Kd.int .i64) (w0 := w) w.heap.size rfl (.tmp 20) (.tmp 22) 24 3 (.int .i64 0) 8 rfl Tryz.underlying24 info3 rfl (by decide) (by omega) u5 x5_1 t383 [.int .i64 t383] (fun _ => True) (fun _ => False) rfl rfl ?aP (fun _ hk => hk.elim) ?aF ?aO ?aB ?aS ?aL ?_; (case aP => exact rfl); (case aB => exact (Bl_ HB)); (case aF => exact (fun _ _ => trivial)); (case aO => exact (Rl_ HO_5.out)); (case aS => exact (below_size (Bl_ HB))); (case aL => have := LMc11.out; omega); intro v385 w12 ho hb hg hat; rw [← Ny384.out] at ho; replace BK378 := a_ (blk_grown (g := gb378) (o := .cells #[.int .i64 a0_0, .slice (some ad382) l0_1.length c0_1] 26 (0, 0)) (bl_ BK378) hg (Kd.R_ne HO_5.out BK378.out (by decide))); replace HB := a_ (hb); have HO386 := a_ (ho); clear HO_5; clear ho hb hg hat));go_roundg k1
   case measure => have := HK1.out; omega
   case rel => exact ⟨(t383), (y384), (wrap64 (x13_1 + 1)), rs_, rs_, H', ⟨by have := HK1.out; omega⟩, ⟨Rl_ HO386.out⟩, ⟨bl_ BK378⟩, ⟨Bl_ HB⟩⟩

/-! ### impl_result: function 44 -/
def impl_result.l0 : Nat → Int → List Int → List Int → Int → Int → Option (List Int)
 | 0, _, _, _, _, _ => none
 | k + 1, x0, x1, x5, x9, x10 => if x10 < x9 then ((impl_way.f k x0 x1 x10).bind fun t390 => (if 0 ≤ (wrap64 ((t390.length : Int) - 1)) then (if (wrap64 ((t390.length : Int) - 1)) < (t390.length : Int) then (if x5.length < 17592186044416 then (impl_result.l0 k x0 x1 (x5 ++ [rd t390 (wrap64 ((t390.length : Int) - 1))]) x9 (wrap64 (x10 + 1))) else (none)) else (none)) else (none))) else (some x5)
def impl_result.f (k : Nat) (a0 : Int) (l1 : List Int) : Option (List Int) := impl_result.l0 k a0 l1 (([] : List Int)) a0 0
theorem impl_result.mono_l : ∀ k, (∀ y0 y1 y2 y3 y4, LeO (impl_result.l0 k y0 y1 y2 y3 y4) (impl_result.l0 (k + 1) y0 y1 y2 y3 y4))
 | 0 => fun _ _ _ _ _ r h => by simp [impl_result.l0] at h
 | k + 1 => by
  have ih0 := impl_result.mono_l k
  ·intro y0 y1 y2 y3 y4;unfold impl_result.l0;have m1 := @impl_way.mono;exact mo_
theorem impl_result.mono : ∀ a0 a1 k, LeO (impl_result.f k a0 a1) (impl_result.f (k + 1) a0 a1) := by
 intro a0 a1 k;have ih0 := impl_result.mono_l k;unfold impl_result.f;exact mo_
theorem impl_result.calls (k : Nat) (a0 : Int) (A1 : Option Addr) (c1 : Nat) (l1 : List Int) (r : List Int) (w : World) (hr1 : Kd.C (Kd.int .i64) w A1 l1.length l1) (hc1 : l1.length ≤ c1) (h : impl_result.f k a0 l1 = some r) :
 Calls Tryz.prog 44 #[.int .i64 a0, .slice A1 l1.length c1] w fun e w' => ∃ v0_ : Value, e = .returned (v0_) ∧ Kd.R (Kd.int .i64) 3 w' w.heap.size (fun _ => True) v0_ r ∧ Below w.heap.size w w' := by
 have hu26 := Tryz.underlying26;have HR1 := a_ hr1;have HC1 := a_ hc1;clear hr1 hc1;have HB := a_ (Below.refl w.heap.size w);have H := h;unfold impl_result.f at H;clear h;generalize hy_ : (([] : List Int)) = y387 at H;have Ny387 := a_ hy_.symm;clear hy_;have H' := a_ H;clear H;go_enter Tryz.func44, Tryz.ntmps44;go_wp2_with (first | ((with_reducible refine gate_dst (N := 8) rfl ?_); refine Kd.R_lit (Kd.int .i64) _ 3 ?hg (N := 8) ?hd (xs := ([] : List Int)) (inner := []) (ok := fun _ => True) (okp := fun _ => True) ?hr ?hp (fun _ hk => hk) trivial (Below.refl _ _) (Nat.le_refl _) (by simp) ?_; (case hd => rfl); (case hg => rfl); (case hr => first | (go_simp; done) | (go_simp; rfl)); (case hp => exact (Reps.none _ _)); intro v388 w3 ho4 hb hg_ hnew_; clear hg_ hnew_; (first | rw [← Ny387.out] at ho4 | (simp only [Int.reduceToNat] at ho4; rw [← Ny387.out] at ho4)); have HO389 := a_ (Kd.R_lower ho4 (below_size (Bl_ HB))); replace HB := Bs_ HB hb; clear hb ho4));go_loopg [5, 10] k (fun kq v5 v10 w' => ∃ (x5_1 : List Int) (x10_1 : Int), v10 = .int .i64 x10_1 ∧ Aside0 (impl_result.l0 kq a0 l1 x5_1 a0 x10_1 = some r) ∧ Aside0 (kq ≤ k) ∧ Aside0 (Kd.R (Kd.int .i64) 3 w' w.heap.size (fun _ => True) v5 x5_1) ∧ Aside0 (Below w.heap.size w w'))
 case atStart => exact ⟨(y387), (0), rs_, H', ⟨Nat.le_refl _⟩, ⟨Rl_ HO389.out⟩, ⟨Bl_ HB⟩⟩
 case round =>
  clear H';obtain ⟨x5_1, x10_1, rfl, HA, HK1, HO_5, HB⟩ := hrel
  cases gk with
  | zero => exact absurd HA.out (by simp [impl_result.l0])
  | succ k1 =>
   have H := HA.out;clear HA;simp only [impl_result.l0] at H;rcases ib_ H with ⟨c5, H⟩ | ⟨c5, H⟩
   ·have c5b0 := decide_eq_false c5;clear c5;obtain rfl := s1_ H;go_wp2;go_ret;exact ⟨_, re_, Rl_ HO_5.out, Bl_ HB⟩
   have c5b0 := decide_eq_true c5;clear c5;obtain ⟨t390, A6, H⟩ := ob_ H;(try dsimp only at H);obtain ⟨ji7, hji7⟩ : ∃ j_ : Int, (wrap64 ((t390.length : Int) - 1)) = j_ := ⟨_, rfl⟩
   replace H : (if 0 ≤ (ji7) then (if (ji7) < (t390.length : Int) then (if x5_1.length < 17592186044416 then (impl_result.l0 k1 a0 l1 (x5_1 ++ [rd t390 (ji7)]) a0 (wrap64 (x10_1 + 1))) else (none)) else (none)) else (none)) = some r := by first | (rw [hji7] at H; exact H) | (simp only [hji7] at H ⊢; exact H)
   (try rw [hji7] at A6);have hji7w : (IntKind.i64.wrap ((t390.length : Int) - 1)) = ji7 := (i64_w _).trans hji7;obtain ⟨c8b0, H⟩ := ic_ H;obtain ⟨c9b0, H⟩ := ic_ H;obtain ⟨LMc10, H⟩ := ia_ H;generalize hy_ : (x5_1 ++ [rd t390 (ji7)]) = y394 at H;have Ny394 := a_ hy_.symm;clear hy_;have H' := a_ H;clear H
   go_wp2_with (first | ((with_reducible refine gc_ 78 ?_);refine gx_ (some 17) Tryz.func78 (impl_way.calls k1 a0 _ _ l1 x10_1 t390 _ (Cl_ (Kd.C_below HR1.out HB.out)) HC1.out A6.out) rfl ?_;rintro v391 w11 ⟨ho0, hb⟩; have HO392 := a_ (Kd.R_lower (Kd.R_new' ho0 (Kd.R_lt (Rl_ HO_5.out))) (below_size (Bl_ HB))); replace HO_5 := a_ (Kd.R_elder' (Rl_ HO_5.out) (Kd.R_base ho0) hb); replace HB := Bs_ HB hb; (try clear hb); (try clear ho0); obtain ⟨Ao12, co12, eo12⟩ := Kd.R_slice HO392.out; subst eo12; obtain ⟨ad393, e393, hx393_0, p393, q393⟩ := ai_ (Kd.R_reads' HO392.out).2.2 (ji7); cases e393) | ((with_reducible refine gate_builtin (b := .append) (xs := #[.tmp 18, .tmp 25]) rfl ?_); at_builtin; refine Kd.R_append (Kd.int .i64) (w0 := w) w.heap.size rfl (.tmp 18) (.tmp 25) 24 3 (.int .i64 0) 8 rfl Tryz.underlying24 info3 rfl (by decide) (by omega) u5 x5_1 (rd t390 (ji7)) [.int .i64 (rd t390 (ji7))] (fun k_ => some k_ ≠ (.slice (some ad393) t390.length co12 : Value).ownBlock) (fun _ => False) rfl rfl ?aP (fun _ hk => hk.elim) ?aF ?aO ?aB ?aS ?aL ?_; (case aP => exact rfl); (case aB => exact (Bl_ HB)); (case aF => exact (fun k_ hk => Kd.fresh' (Kd.R_lt (Rl_ HO392.out)) k_ hk)); (case aO => exact (Rl_ (Kd.R_mono HO_5.out (fun _ hk => hk.2)))); (case aS => exact (below_size (Bl_ HB))); (case aL => have := LMc10.out; omega); intro v395 w13 ho hb hg hat; rw [← Ny394.out] at ho; replace HO392 := a_ (Kd.R_after (ok := (fun _ => True)) (Rl_ HO392.out) hg hat); replace HB := a_ (hb); have HO396 := a_ (ho); clear HO_5; clear ho hb hg hat));go_roundg k1
   case measure => have := HK1.out; omega
   case rel => exact ⟨(y394), (wrap64 (x10_1 + 1)), rs_, H', ⟨by have := HK1.out; omega⟩, ⟨Rl_ (Kd.R_mono HO396.out (fun _ hk => trivial))⟩, ⟨Bl_ HB⟩⟩

/-! ### impl_ResultOf: function 15 -/
def impl_ResultOf.f (k : Nat) (a0_0 : Int) (l0_1 : List Int) : Option (List Int × Bool) := (impl_isLadder.f a0_0 l0_1).bind fun t398 => (if t398 = true then ((impl_result.f k a0_0 l0_1).bind fun t399 => (some (t399, true))) else (some (([] : List Int), false)))
theorem impl_ResultOf.mono : ∀ a0 a1 k, LeO (impl_ResultOf.f k a0 a1) (impl_ResultOf.f (k + 1) a0 a1) := by
 intro a0 a1 k;unfold impl_ResultOf.f;have m1 := @impl_result.mono;exact mo_
theorem impl_ResultOf.calls (k : Nat) (a0_0 : Int) (A0_1 : Option Addr) (c0_1 : Nat) (l0_1 : List Int) (r1 : List Int) (r2 : Bool) (w : World) (hr0_1 : Kd.C (Kd.int .i64) w A0_1 l0_1.length l0_1) (hc0_1 : l0_1.length ≤ c0_1) (h : impl_ResultOf.f k a0_0 l0_1 = some (r1, r2)) :
 Calls Tryz.prog 15 #[.agg #[.int .i64 a0_0, .slice A0_1 l0_1.length c0_1]] w fun e w' => ∃ v0_ : Value, e = .returned (.tuple #[v0_, .bool r2]) ∧ Kd.R (Kd.int .i64) 3 w' w.heap.size (fun _ => True) v0_ r1 ∧ Below w.heap.size w w' := by
 have hu26 := Tryz.underlying26;have HR0_1 := a_ hr0_1;have HC0_1 := a_ hc0_1;clear hr0_1 hc0_1;have HB := a_ (Below.refl w.heap.size w);have H := h;unfold impl_ResultOf.f at H;clear h;obtain ⟨t398, A2, H⟩ := ob_ H;(try dsimp only at H);replace H := bc_ H;rcases H with ⟨rfl, H⟩ | ⟨rfl, H⟩
 ·obtain ⟨rfl, rfl⟩ := s2_ H;go_enter Tryz.func15, Tryz.ntmps15;go_wp2_with (first | ((with_reducible refine gd_ 1 ?_);refine by_ #[.int .i64 a0_0, .slice A0_1 l0_1.length c0_1] 26 HB ?_;intro gb397 w10 BK397 GW397 HB; obtain ⟨hcz11_0, hcz11_1, hfz11_0, hfz11_1⟩ := cf2_ BK397) | ((with_reducible refine gc_ 33 ?_);refine gn_ (some 5) Tryz.func33 (impl_isLadder.calls a0_0 _ _ l0_1 false _ (Cl_ (Kd.C_below HR0_1.out HB.out)) HC0_1.out A2.out) rfl ?_;intro w12 hb; obtain ⟨BK397, HB⟩ := u1_ hb BK397 HB;clear hb));go_ret2;exact ⟨_, re_, nl_, Bl_ HB⟩
 obtain ⟨t399, A4, H⟩ := ob_ H;(try dsimp only at H);obtain ⟨rfl, rfl⟩ := s2_ H;go_enter Tryz.func15, Tryz.ntmps15;go_wp2_with (first | ((with_reducible refine gd_ 1 ?_);refine by_ #[.int .i64 a0_0, .slice A0_1 l0_1.length c0_1] 26 HB ?_;intro gb397 w5 BK397 GW397 HB; obtain ⟨hcz6_0, hcz6_1, hfz6_0, hfz6_1⟩ := cf2_ BK397) | ((with_reducible refine gc_ 33 ?_);refine gn_ (some 5) Tryz.func33 (impl_isLadder.calls a0_0 _ _ l0_1 true _ (Cl_ (Kd.C_below HR0_1.out HB.out)) HC0_1.out A2.out) rfl ?_;intro w7 hb; obtain ⟨BK397, HB⟩ := u1_ hb BK397 HB;clear hb; obtain ⟨hcz8_0, hcz8_1, hfz8_0, hfz8_1⟩ := cf2_ BK397) | ((with_reducible refine gc_ 44 ?_);refine gx_ (some 11) Tryz.func44 (impl_result.calls k a0_0 _ _ l0_1 t399 _ (Cl_ (Kd.C_below HR0_1.out HB.out)) HC0_1.out A4.out) rfl ?_;rintro v400 w9 ⟨ho0, hb⟩; have HO401 := a_ (Kd.R_lower ho0 (below_size (Bl_ HB))); obtain ⟨BK397, HB⟩ := u1_ hb BK397 HB;clear hb; (try clear ho0)));go_ret2;exact ⟨_, re_, Rl_ HO401.out, Bl_ HB⟩

/-! ### impl_firsts: function 79 -/
-- ONLY 71 68 96
theorem goesF_ {P : Program} {ops : Array Oper} {Q : Exit → Act → World → Prop} {oi : Oper} {N : Option Tmp} {a : Act} {w : World} {K : Act → World → Prop} {as_ : Array Operand} {ts : Array TypeId} {tf : Operand} (g : FuncId) (lb : Array Value) (eg : ∀ args w, (callFunc g args).run P w = .ok (.enter g args) w) (args : Array Value)
    (hw : Region.wanted oi (yielded ops a.tmps) = true) (hN : oi.dst = N) (hop : oi.op = .call { callee := .value tf, args := as_, argTypes := ts }) (hcal : a.eval tf = .func (.func g) #[] lb) (hargs : as_.map a.eval = args)
    (h : Calls P g (args ++ lb) w fun e w' => ∃ v, e = .returned v ∧ K (a.put N v) w') : if Region.wanted oi (yielded ops a.tmps) = true then Oper.wp P oi a w K Q else K (a.put N undef) w := by
  refine call_ g (args ++ lb) hw hN ?_ h
  unfold execOp
  simp [hop, resolve, Deferred.ofValue, invoke, hcal, hargs, eg]
mutual
def insC.l0 (cf : Int → Int → Option Int) : Nat → List Int → Int → Int → Int → Option (List Int)
 | 0, _, _, _, _ => none
 | k + 1, x0, x1, x2, x6 => if x6 < x2 then (insC.l1 cf k x0 x1 x2 x6 x6) else (some x0)
def insC.l1 (cf : Int → Int → Option Int) : Nat → List Int → Int → Int → Int → Int → Option (List Int)
 | 0, _, _, _, _, _ => none
 | k + 1, x0, x1, x2, x6, x7 => if x7 > x1 then (if 0 ≤ x7 then (if x7 < (x0.length : Int) then (if 0 ≤ (wrap64 (x7 - 1)) then (if (wrap64 (x7 - 1)) < (x0.length : Int) then ((cf (rd x0 x7) (rd x0 (wrap64 (x7 - 1)))).bind fun t479 => (if t479 < 0 then (insC.l1 cf k ((x0.set (x7 : Int).toNat (rd x0 (wrap64 (x7 - 1)))).set ((wrap64 (x7 - 1)) : Int).toNat (rd x0 x7)) x1 x2 x6 (wrap64 (x7 - 1))) else (insC.l0 cf k x0 x1 x2 (wrap64 (x6 + 1))))) else (none)) else (none)) else (none)) else (none)) else (insC.l0 cf k x0 x1 x2 (wrap64 (x6 + 1)))
end
def insC.f (cf : Int → Int → Option Int) (k : Nat) (l0 : List Int) (a1 : Int) (a2 : Int) : Option (List Int) := insC.l0 cf k l0 a1 a2 (wrap64 (a1 + 1))
theorem insC.mono_l (cf : Int → Int → Option Int) : ∀ k, (∀ y0 y1 y2 y3, LeO (insC.l0 cf k y0 y1 y2 y3) (insC.l0 cf (k + 1) y0 y1 y2 y3)) ∧ (∀ y0 y1 y2 y3 y4, LeO (insC.l1 cf k y0 y1 y2 y3 y4) (insC.l1 cf (k + 1) y0 y1 y2 y3 y4))
 | 0 => ⟨fun _ _ _ _ r h => by simp [insC.l0] at h, fun _ _ _ _ _ r h => by simp [insC.l1] at h⟩
 | k + 1 => by
  obtain ⟨ih0, ih1⟩ := insC.mono_l cf k
  refine ⟨?_, ?_⟩
  ·intro y0 y1 y2 y3
   unfold insC.l0
   repeat' first
   | (with_reducible exact ih1 _ _ _ _ _)
   | (with_reducible exact LeO.refl _)
   | (with_reducible exact LeO.none _)
   | (with_reducible refine LeO.ite ?_ ?_)
   | (with_reducible refine LeO.bind ?_ (fun _ => ?_))
   | exact LeO.none _
   | refine LeO.ite ?_ ?_
   | refine LeO.bind ?_ (fun _ => ?_)
  ·intro y0 y1 y2 y3 y4
   unfold insC.l1
   repeat' first
   | (with_reducible exact ih0 _ _ _ _)
   | (with_reducible exact ih1 _ _ _ _ _)
   | (with_reducible exact LeO.refl _)
   | (with_reducible exact LeO.none _)
   | (with_reducible refine LeO.ite ?_ ?_)
   | (with_reducible refine LeO.bind ?_ (fun _ => ?_))
   | exact LeO.none _
   | refine LeO.ite ?_ ?_
   | refine LeO.bind ?_ (fun _ => ?_)
theorem insC.mono (cf : Int → Int → Option Int) : ∀ a0 a1 a2 k, LeO (insC.f cf k a0 a1 a2) (insC.f cf (k + 1) a0 a1 a2) := by
 intro a0 a1 a2 k
 obtain ⟨ih0, ih1⟩ := insC.mono_l cf k
 unfold insC.f
 repeat' first
  | (with_reducible exact ih0 _ _ _ _)
  | (with_reducible exact LeO.refl _)
  | (with_reducible exact LeO.none _)
  | (with_reducible refine LeO.ite ?_ ?_)
  | (with_reducible refine LeO.bind ?_ (fun _ => ?_))
  | exact LeO.none _
  | refine LeO.ite ?_ ?_
  | refine LeO.bind ?_ (fun _ => ?_)
theorem insC.calls (cf : Int → Int → Option Int) (g : Nat) (lb : Array Value) (eg : ∀ args w, (callFunc g args).run Tryz.prog w = .ok (.enter g args) w) (k : Nat) (P0_ : Nat → Prop) (u9000_ : Value) (l0 : List Int) (a1 : Int) (a2 : Int) (r : List Int) (w0 w : World) (hp : ∀ W x y c, Kept w W (fun k_ => P0_ k_) → cf x y = some c → Calls Tryz.prog g (#[.int .i64 x, .int .i64 y] ++ lb) W fun e w' => e = .returned (.int .i64 c) ∧ Drawn0 W w') (hB : Below w0.heap.size w0 w) (ho0 : Kd.R (Kd.int .i64) 3 w w0.heap.size P0_ u9000_ l0) (h : insC.f cf k l0 a1 a2 = some r) :
 Calls Tryz.prog 122 #[u9000_, .int .i64 a1, .int .i64 a2, .func (.func g) #[] lb] w fun e w' => e = .returned (.tuple #[]) ∧ Kd.R (Kd.int .i64) 3 w' w0.heap.size (fun k_ => (P0_ k_ ∨ w.heap.size ≤ k_)) u9000_ r ∧ Below w0.heap.size w0 w' ∧ Kept w w' (fun k_ => P0_ k_) := by
 have HO0 := a_ (show Kd.R (Kd.int .i64) 3 w w0.heap.size (fun k_ => (P0_ k_ ∨ w.heap.size ≤ k_)) u9000_ l0 from Kd.R_mono ho0 (fun k_ hk => (.inl hk)));have HK := a_ (Kept.refl w (fun k_ => P0_ k_));have HW0 := a_ hB.size;have HP := a_ hp;clear hp;have HB := a_ hB;clear hB;have H : (insC.l0 cf k l0 a1 a2 (wrap64 (a1 + 1))) = some r := h;clear h;have H' := a_ H;clear H;go_enter Tryz.func122, Tryz.ntmps122;go_wp2;go_loopg [8] k (fun kq v6 w' => ∃ (x0_1 : List Int) (x6_1 : Int), v6 = .int .i64 x6_1 ∧ Aside0 (insC.l0 cf kq x0_1 a1 a2 x6_1 = some r) ∧ Aside0 (kq ≤ k) ∧ Aside0 (Kd.R (Kd.int .i64) 3 w' w0.heap.size (fun k_ => (P0_ k_ ∨ w.heap.size ≤ k_)) u9000_ x0_1) ∧ Aside0 (Kept w w' (fun k_ => P0_ k_)) ∧ Aside0 (Below w0.heap.size w0 w'))
 case atStart => exact ⟨(l0), (wrap64 (a1 + 1)), rs_, H', ⟨Nat.le_refl _⟩, ⟨Rl_ HO0.out⟩, ⟨by repeat (first | (with_reducible first | exact HK.out | apply Kept.alloc | apply Kept.drewN | apply Kept.drew) | exact HK.out)⟩, ⟨Bl_ HB⟩⟩
 case round =>
  as_aux_lemma =>
  clear H';(try clear p2);obtain ⟨x0_1, x6_1, rfl, HA, HK1, HO_0, HK, HB⟩ := hrel
  cases gk with
  | zero => exact absurd HA.out (by simp [insC.l0])
  | succ k1 =>
   have H := HA.out;clear HA;simp only [insC.l0] at H;by_cases c4 : x6_1 < a2;rotate_left
   ·rw [if_neg c4] at H;have c4b0 : decide (x6_1 < a2) = false := decide_eq_false c4;clear c4;obtain rfl := Option.some.inj H;go_wp2
    first | go_end0 | ((try simp only [Exit.inBlock, Exit.then]); refine bodyPost_ret (results_none rfl _ _ _) rfl ?_)
    exact ⟨re_, by (with_reducible repeat (first | apply Kd.R_alloc | apply Kd.R_drewN | apply Kd.R_drew)); exact HO_0.out, Bl_ HB, by repeat (first | (with_reducible first | exact HK.out | apply Kept.alloc | apply Kept.drewN | apply Kept.drew) | exact HK.out)⟩
   rw [if_pos c4] at H;have c4b0 : decide (x6_1 < a2) = true := decide_eq_true c4;clear c4;have H' := a_ H;clear H;go_wp2;go_loopg [9] k1 (fun kq v7 w' => ∃ (x0_2 : List Int) (x7_2 : Int), v7 = .int .i64 x7_2 ∧ Aside0 (insC.l1 cf kq x0_2 a1 a2 x6_1 x7_2 = some r) ∧ Aside0 (kq ≤ k1) ∧ Aside0 (Kd.R (Kd.int .i64) 3 w' w0.heap.size (fun k_ => (P0_ k_ ∨ w.heap.size ≤ k_)) u9000_ x0_2) ∧ Aside0 (Kept w w' (fun k_ => P0_ k_)) ∧ Aside0 (Below w0.heap.size w0 w'))
   case atStart => exact ⟨(x0_1), (x6_1), rs_, H', ⟨Nat.le_refl _⟩, ⟨Rl_ HO_0.out⟩, ⟨by repeat (first | (with_reducible first | exact HK.out | apply Kept.alloc | apply Kept.drewN | apply Kept.drew) | exact HK.out)⟩, ⟨Bl_ HB⟩⟩
   case round =>
    as_aux_lemma =>
    clear H';(try clear p2);(try clear c4);(try clear c4b0);(try clear p2);obtain ⟨x0_2, x7_2, rfl, HA, HK2, HO_0, HK, HB⟩ := hrel
    cases gk with
    | zero => exact absurd HA.out (by simp [insC.l1])
    | succ k2 =>
     have H := HA.out;clear HA;simp only [insC.l1] at H;by_cases c5 : x7_2 > a1;rotate_left
     ·rw [if_neg c5] at H;have c5b0 : decide (a1 < x7_2) = false := decide_eq_false c5;clear c5;have H' := a_ H;clear H
      try go_wp2
      replace HO_0 := a_ (Kd.R_drew HO_0.out);replace HK := a_ (Kept.drew HK.out);replace HB := a_ (below_drew1 HB.out);refine start_ (n := 17) (S := fun w' => True) (ds := []) (fl_ 17 0) (by kernel_rfl) rfl rfl trivial (fun hHeld => ?_);generalize wr.drew = w22 at HO_0 HK HB hHeld ⊢;refine pu_ 0 (some 18) (fl_ 17 1) ?_;refine pu_ 1 (some 19) (fl_ 17 2) ?_;refine pu_ 2 (some 20) (fl_ 17 3) ?_;refine pu_ 3 (some 21) (fl_ 17 4) ?_;refine pu_ 4 (some 22) (fl_ 17 5) ?_;refine pu_ 5 (some 23) (fl_ 17 6) ?_;refine pu_ 6 (some 24) (fl_ 17 7) ?_;refine pu_ 7 (some 25) (fl_ 17 8) ?_;refine pu_ 8 (some 26) (fl_ 17 9) ?_;refine pu_ 9 (some 27) (fl_ 17 10) ?_;refine pu_ 10 (some 28) (fl_ 17 11) ?_;refine pu_ 11 (some 29) (fl_ 17 12) ?_;refine pu_ 12 (some 30) (fl_ 17 13) ?_;refine pu_ 13 (some 31) (fl_ 17 14) ?_;refine pu_ 14 (some 32) (fl_ 17 15) ?_;refine pu_ 15 (some 33) (fl_ 17 16) ?_;refine pu_ 16 (some 34) (fl_ 17 17) ?_;refine done_ (by kernel_rfl) ?_
      try go_wp2
      go_roundg k2
      case measure => have := HK1.out; have := HK2.out; omega
      case rel => exact ⟨(x0_2), (wrap64 (x6_1 + 1)), rs_, H', ⟨by have := HK1.out; have := HK2.out; omega⟩, ⟨Rl_ HO_0.out⟩, ⟨by repeat (first | (with_reducible first | exact HK.out | apply Kept.alloc | apply Kept.drewN | apply Kept.drew) | exact HK.out)⟩, ⟨Bl_ HB⟩⟩
     rw [if_pos c5] at H;have c5b0 : decide (a1 < x7_2) = true := decide_eq_true c5;clear c5;by_cases c6 : 0 ≤ x7_2;rotate_left
     ·rw [if_neg c6] at H
      cases H
     rw [if_pos c6] at H;have c6b0 : decide (0 ≤ x7_2) = true := decide_eq_true c6;clear c6;by_cases c7 : x7_2 < (x0_2.length : Int);rotate_left
     ·rw [if_neg c7] at H
      cases H
     rw [if_pos c7] at H;have c7b0 : decide (x7_2 < (x0_2.length : Int)) = true := decide_eq_true c7;clear c7;obtain ⟨ji8, hji8⟩ : ∃ j_ : Int, (wrap64 (x7_2 - 1)) = j_ := ⟨_, rfl⟩
     replace H : (if 0 ≤ (ji8) then (if (ji8) < (x0_2.length : Int) then ((cf (rd x0_2 x7_2) (rd x0_2 (ji8))).bind fun t479 => (if t479 < 0 then (insC.l1 cf k2 ((x0_2.set (x7_2 : Int).toNat (rd x0_2 (ji8))).set ((ji8) : Int).toNat (rd x0_2 x7_2)) a1 a2 x6_1 ji8) else (insC.l0 cf k2 x0_2 a1 a2 (wrap64 (x6_1 + 1))))) else (none)) else (none)) = some r := by first | (rw [hji8] at H; exact H) | (simp only [hji8] at H ⊢; exact H)
     have hji8w : (IntKind.i64.wrap (x7_2 - 1)) = ji8 := (i64_w _).trans hji8;by_cases c9 : 0 ≤ (ji8);rotate_left
     ·rw [if_neg c9] at H
      cases H
     rw [if_pos c9] at H;have c9b0 : decide (0 ≤ (ji8)) = true := decide_eq_true c9;clear c9;by_cases c10 : (ji8) < (x0_2.length : Int);rotate_left
     ·rw [if_neg c10] at H
      cases H
     rw [if_pos c10] at H;have c10b0 : decide ((ji8) < (x0_2.length : Int)) = true := decide_eq_true c10;clear c10;obtain ⟨t479, A11, H⟩ := ob_ H;(try dsimp only at H);by_cases c12 : t479 < 0
     ·rw [if_pos c12] at H;have c12b0 : decide (t479 < 0) = true := decide_eq_true c12;clear c12;obtain ⟨y482, hy482⟩ : ∃ y_ : List Int, y_ = (x0_2.set (x7_2 : Int).toNat (rd x0_2 (ji8))) := ⟨_, rfl⟩
      replace H : (insC.l1 cf k2 (y482.set ((ji8) : Int).toNat (rd x0_2 x7_2)) a1 a2 x6_1 ji8) = some r := by first | (rw [hy482]; with_reducible exact H) | (have H2_ := (Option.bind_some _ _).symm.trans H; rw [hy482]; with_reducible exact H2_) | (have H2_ := (Option.bind_some _ _).symm.trans H; with_reducible exact H2_) | with_reducible exact H | (rw [hy482]; exact H) | exact H
      have Ny482 := a_ hy482;clear hy482;obtain ⟨y483, hy483⟩ : ∃ y_ : List Int, y_ = (y482.set ((ji8) : Int).toNat (rd x0_2 x7_2)) := ⟨_, rfl⟩
      replace H : (insC.l1 cf k2 y483 a1 a2 x6_1 ji8) = some r := by first | (rw [hy483]; with_reducible exact H) | (have H2_ := (Option.bind_some _ _).symm.trans H; rw [hy483]; with_reducible exact H2_) | (have H2_ := (Option.bind_some _ _).symm.trans H; with_reducible exact H2_) | with_reducible exact H | (rw [hy483]; exact H) | exact H
      have Ny483 := a_ hy483;clear hy483;have H' := a_ H;clear H
      try go_wp2
      replace HO_0 := a_ (Kd.R_drew HO_0.out);replace HK := a_ (Kept.drew HK.out);replace HB := a_ (below_drew1 HB.out);obtain ⟨Ao16, co16, eo16⟩ := Kd.R_slice HO_0.out;(first | subst eo16 | (injection eo16 with f1_ f2_ f3_; have f4_ := f1_.symm; have f5_ := f3_.symm; clear f1_ f2_ f3_; subst f4_; subst f5_));have p477 : 0 ≤ (x7_2 : Int) := od_;have q477 : x7_2 < (x0_2.length : Int) := od_;obtain ⟨ad477, e477, hx477_0⟩ := Kd.at_int (Kd.R_reads' HO_0.out).2.2 x7_2 p477 q477
      cases e477
      replace p477 := eq_true p477;replace q477 := eq_true q477;have p478 : 0 ≤ ((ji8) : Int) := od_;have q478 : (ji8) < (x0_2.length : Int) := od_;obtain ⟨ad478, e478, hx478_0⟩ := Kd.at_int (Kd.R_reads' HO_0.out).2.2 (ji8) p478 q478;obtain rfl : ad477 = ad478 := (by injection e478);replace p478 := eq_true p478;replace q478 := eq_true q478;refine start_ (n := 17) (S := fun w' => w'.cell? (ad477.add (x7_2).toNat) = some (.int .i64 (rd x0_2 x7_2)) ∧ w'.cell? (ad477.add ((ji8)).toNat) = some (.int .i64 (rd x0_2 (ji8)))) (ds := []) (fl_ 17 0) (by kernel_rfl) rfl rfl ⟨hx477_0, hx478_0⟩ (fun hHeld => ?_);generalize wr.drew = w15 at HO_0 HK HB hx477_0 hx478_0 hHeld ⊢;refine pu_ 0 (some 18) (fl_ 17 1) ?_;refine pu_ 1 (some 19) (fl_ 17 2) ?_;refine pu_ 2 (some 20) (fl_ 17 3) ?_;refine pu_ 3 (some 21) (fl_ 17 4) ?_;refine pu_ 4 (some 22) (fl_ 17 5) ?_;refine pu_ 5 (some 23) (fl_ 17 6) ?_;refine pu_ 6 (some 24) (fl_ 17 7) ?_;refine pu_ 7 (some 25) (fl_ 17 8) ?_;refine pu_ 9 (some 27) #[true, true, true, true, true, true, true, true, false, true, false, false, false, false, false, false, false] ?_;refine pu_ 10 (some 28) #[true, true, true, true, true, true, true, true, false, true, true, false, false, false, false, false, false] ?_;refine pu_ 11 (some 29) #[true, true, true, true, true, true, true, true, false, true, true, true, false, false, false, false, false] ?_;refine pu_ 12 (some 30) #[true, true, true, true, true, true, true, true, false, true, true, true, true, false, false, false, false] ?_;refine tk_ 8 (some 26) (fl_ 17 13) hHeld ?_;refine tk_ 13 (some 31) (fl_ 17 14) hHeld ?_;refine one_ (i := 14) (N := some 32) (fl_ 17 15) rfl rfl (by kernel_rfl) (by decide) (fun K hK => ?_);refine goesF_ (tf := .tmp 22) g lb eg #[.int .i64 (rd x0_2 x7_2), .int .i64 (rd x0_2 (ji8))] (by rfl) rfl rfl (by rfl) (by (try simp only [List.map_toArray, List.map_cons, List.map_nil]); first | done | (simp only [hji8]; rfl) | rfl) ?_
      (with_reducible refine (HP.out _ (rd x0_2 x7_2) (rd x0_2 (ji8)) t479 HK.out A11.out).mono ?_);rintro e w' ⟨rfl, ⟨nd, rfl⟩⟩;refine ⟨_, rfl, ?_⟩;refine hK.out _ _ ⟨hHeld.1, hHeld.2⟩ (fun hHeld => ?_);clear hK K;refine norm_ (a' := ?_) ?_ ?_;rotate_left
      ·show Act.put _ (some 32) _ = _;simp only [Act.put, List.setIfInBounds_toArray, List.set_cons_zero, List.set_cons_succ, i64_w, i32_w];rfl
      refine pu_ 15 (some 33) (fl_ 17 16) ?_;refine pu_ 16 (some 34) (fl_ 17 17) ?_;refine done_ (by kernel_rfl) ?_
      try go_wp2
      (try (rw [drewN_self w15]; generalize hq_ : World.drewN w15 _ = w15; replace HO_0 : Aside0 (Kd.R (Kd.int .i64) 3 w15 w0.heap.size (fun k_ => (P0_ k_ ∨ w.heap.size ≤ k_)) (.slice (some ad477) x0_2.length co16) x0_2) := ⟨by rw [← hq_]; exact (Rl_ HO_0.out)⟩; replace HK : Aside0 (Kept w w15 (fun k_ => P0_ k_)) := ⟨by rw [← hq_]; exact (by repeat (first | (with_reducible first | exact HK.out | apply Kept.alloc | apply Kept.drewN | apply Kept.drew) | exact HK.out))⟩; replace HB : Aside0 (Below w0.heap.size w0 w15) := ⟨by rw [← hq_]; exact (Bl_ HB)⟩; clear hq_));replace HO_0 := a_ (Kd.R_drew HO_0.out);replace HK := a_ (Kept.drew HK.out);replace HB := a_ (below_drew1 HB.out);have p480 : 0 ≤ ((ji8) : Int) := od_;have q480 : (ji8) < (x0_2.length : Int) := od_;obtain ⟨ad480, e480, hx480_0⟩ := Kd.at_int (Kd.R_reads' HO_0.out).2.2 (ji8) p480 q480;obtain rfl : ad477 = ad480 := (by injection e480);replace p480 := eq_true p480;replace q480 := eq_true q480;have p481 : 0 ≤ (x7_2 : Int) := od_;have q481 : x7_2 < (x0_2.length : Int) := od_;obtain ⟨ad481, e481, hx481_0⟩ := Kd.at_int (Kd.R_reads' HO_0.out).2.2 x7_2 p481 q481;obtain rfl : ad477 = ad481 := (by injection e481);replace p481 := eq_true p481;replace q481 := eq_true q481;have p13 : 0 ≤ (x7_2 : Int) := od_;have q13 : (x7_2 : Int) < ((x0_2.length : Int) : Int) := od_;obtain ⟨go13, co13, eo13, gb13, gl13, cl13, HG13⟩ := Kd.R_form HO_0.out (by omega);(first | cases eo13 | (injection eo13 with ea_ en_ ec_; (first | subst ea_ | (injection ea_ with ea_; subst ea_)); subst ec_; clear en_));have GB13 := a_ gb13;have GG13 := a_ HG13;clear gb13 gl13 HG13;have HMgo13 := a_ (show (P0_ go13 ∨ w.heap.size ≤ go13) from (HO_0.out.1 _ rfl));(first | simp only [add_plain] at hx477_0 | skip);(first | simp only [add_plain] at hx478_0 | skip);(first | simp only [add_plain] at hx480_0 | skip);(first | simp only [add_plain] at hx481_0 | skip);obtain ⟨hx13_0, hf13_0⟩ := Kd.R_celln 0 HO_0.out (x7_2 : Int) p13 q13;replace p13 := eq_true p13
      replace q13 := eq_true q13;have HP18 := Kd.R_putn HO_0.out (x7_2 : Int) (rd x0_2 (ji8));rw [← Ny482.out] at HP18;have HQ18 := a_ HP18;clear HP18;have p14 : 0 ≤ ((ji8) : Int) := od_;have q14 : ((ji8) : Int) < ((x0_2.length : Int) : Int) := od_;obtain ⟨hx14_0, hf14_0⟩ := Kd.R_celln 0 HQ18.out ((ji8) : Int) p14 q14;replace p14 := eq_true p14;replace q14 := eq_true q14;have HP19 := Kd.R_putn HQ18.out ((ji8) : Int) (rd x0_2 x7_2);rw [← Ny483.out] at HP19;have HQ19 := a_ HP19;clear HP19;refine start_ (n := 18) (S := fun w' => w'.cell? ⟨go13, ((ji8)).toNat, none⟩ = some (.int .i64 (rd x0_2 (ji8))) ∧ w'.cell? ⟨go13, (x7_2).toNat, none⟩ = some (.int .i64 (rd x0_2 x7_2))) (ds := [15, 17]) (fl_ 18 0) (by kernel_rfl) rfl rfl ⟨hx480_0, hx481_0⟩ (fun hHeld => ?_);generalize w15.drew = w17 at HO_0 HK HB GG13 HQ18 HQ19 hf13_0 hf14_0 hx13_0 hx14_0 hx477_0 hx478_0 hx480_0 hx481_0 hHeld ⊢;refine pu_ 0 (some 37) (fl_ 18 1) ?_;refine pu_ 1 (some 38) (fl_ 18 2) ?_;refine pu_ 2 (some 39) (fl_ 18 3) ?_;refine pu_ 3 (some 40) (fl_ 18 4) ?_;refine pu_ 4 (some 41) (fl_ 18 5) ?_;refine pu_ 5 (some 42) (fl_ 18 6) ?_;refine pu_ 6 (some 43) (fl_ 18 7) ?_;refine pu_ 7 (some 44) (fl_ 18 8) ?_;refine pu_ 8 (some 45) (fl_ 18 9) ?_;refine pu_ 10 (some 47) #[true, true, true, true, true, true, true, true, true, false, true, false, false, false, false, false, false, false] ?_;refine pu_ 11 (some 48) #[true, true, true, true, true, true, true, true, true, false, true, true, false, false, false, false, false, false] ?_;refine pu_ 12 (some 49) #[true, true, true, true, true, true, true, true, true, false, true, true, true, false, false, false, false, false] ?_;refine tk_ 9 (some 46) (fl_ 18 13) hHeld ?_;refine tk_ 13 (some 50) (fl_ 18 14) hHeld ?_;refine pu_ 14 (some 51) (fl_ 18 15) ?_;refine last_ (i := 15) (N := none) (fl_ 18 16) rfl rfl (by kernel_rfl) (by decide) (fun K hK => ?_);refine skip_ (w1 := ?_) (by rfl) rfl ?_ ?_;rotate_left
      ·go_simp;rfl
      refine hK.out _ _ ?_;clear hK K;refine pu_ 16 (some 52) (fl_ 18 17) ?_;refine last_ (i := 17) (N := none) (fl_ 18 18) rfl rfl (by kernel_rfl) (by decide) (fun K hK => ?_);refine skip_ (w1 := ?_) (by rfl) rfl ?_ ?_;rotate_left
      ·go_simp;rfl
      refine hK.out _ _ ?_;clear hK K;refine done_ (by kernel_rfl) ?_
      try go_wp2
      go_roundg k2
      case measure => have := HK1.out; have := HK2.out; omega
      case rel => exact ⟨(y483), (ji8), (by first | rfl | (simp; done) | (simp only [← hji8] <;> (first | rfl | simp)) | (simp [*]; done)), H', ⟨by have := HK1.out; have := HK2.out; omega⟩, ⟨Rl_ HQ19.out⟩, ⟨by repeat (first | (with_reducible first | exact HK.out | apply Kept.alloc | apply Kept.drewN | apply Kept.drew | refine Kept.setCell ?_ HMgo13.out _ | refine Kept.setCell ?_ HMgo13.out _) | exact HK.out)⟩, ⟨Bl_ HB⟩⟩
     rw [if_neg c12] at H;have c12b0 : decide (t479 < 0) = false := decide_eq_false c12;clear c12;have H' := a_ H;clear H
     try go_wp2
     replace HO_0 := a_ (Kd.R_drew HO_0.out);replace HK := a_ (Kept.drew HK.out);replace HB := a_ (below_drew1 HB.out);obtain ⟨Ao21, co21, eo21⟩ := Kd.R_slice HO_0.out;(first | subst eo21 | (injection eo21 with f1_ f2_ f3_; have f4_ := f1_.symm; have f5_ := f3_.symm; clear f1_ f2_ f3_; subst f4_; subst f5_));have p477 : 0 ≤ (x7_2 : Int) := od_;have q477 : x7_2 < (x0_2.length : Int) := od_;obtain ⟨ad477, e477, hx477_0⟩ := Kd.at_int (Kd.R_reads' HO_0.out).2.2 x7_2 p477 q477
     cases e477
     replace p477 := eq_true p477;replace q477 := eq_true q477;have p478 : 0 ≤ ((ji8) : Int) := od_;have q478 : (ji8) < (x0_2.length : Int) := od_;obtain ⟨ad478, e478, hx478_0⟩ := Kd.at_int (Kd.R_reads' HO_0.out).2.2 (ji8) p478 q478;obtain rfl : ad477 = ad478 := (by injection e478);replace p478 := eq_true p478;replace q478 := eq_true q478;refine start_ (n := 17) (S := fun w' => w'.cell? (ad477.add (x7_2).toNat) = some (.int .i64 (rd x0_2 x7_2)) ∧ w'.cell? (ad477.add ((ji8)).toNat) = some (.int .i64 (rd x0_2 (ji8)))) (ds := []) (fl_ 17 0) (by kernel_rfl) rfl rfl ⟨hx477_0, hx478_0⟩ (fun hHeld => ?_);generalize wr.drew = w20 at HO_0 HK HB hx477_0 hx478_0 hHeld ⊢;refine pu_ 0 (some 18) (fl_ 17 1) ?_;refine pu_ 1 (some 19) (fl_ 17 2) ?_;refine pu_ 2 (some 20) (fl_ 17 3) ?_;refine pu_ 3 (some 21) (fl_ 17 4) ?_;refine pu_ 4 (some 22) (fl_ 17 5) ?_;refine pu_ 5 (some 23) (fl_ 17 6) ?_;refine pu_ 6 (some 24) (fl_ 17 7) ?_;refine pu_ 7 (some 25) (fl_ 17 8) ?_;refine pu_ 9 (some 27) #[true, true, true, true, true, true, true, true, false, true, false, false, false, false, false, false, false] ?_;refine pu_ 10 (some 28) #[true, true, true, true, true, true, true, true, false, true, true, false, false, false, false, false, false] ?_;refine pu_ 11 (some 29) #[true, true, true, true, true, true, true, true, false, true, true, true, false, false, false, false, false] ?_;refine pu_ 12 (some 30) #[true, true, true, true, true, true, true, true, false, true, true, true, true, false, false, false, false] ?_;refine tk_ 8 (some 26) (fl_ 17 13) hHeld ?_;refine tk_ 13 (some 31) (fl_ 17 14) hHeld ?_;refine one_ (i := 14) (N := some 32) (fl_ 17 15) rfl rfl (by kernel_rfl) (by decide) (fun K hK => ?_);refine goesF_ (tf := .tmp 22) g lb eg #[.int .i64 (rd x0_2 x7_2), .int .i64 (rd x0_2 (ji8))] (by rfl) rfl rfl (by rfl) (by (try simp only [List.map_toArray, List.map_cons, List.map_nil]); first | done | (simp only [hji8]; rfl) | rfl) ?_
     (with_reducible refine (HP.out _ (rd x0_2 x7_2) (rd x0_2 (ji8)) t479 HK.out A11.out).mono ?_);rintro e w' ⟨rfl, ⟨nd, rfl⟩⟩;refine ⟨_, rfl, ?_⟩;refine hK.out _ _ ⟨hHeld.1, hHeld.2⟩ (fun hHeld => ?_);clear hK K;refine norm_ (a' := ?_) ?_ ?_;rotate_left
     ·show Act.put _ (some 32) _ = _;simp only [Act.put, List.setIfInBounds_toArray, List.set_cons_zero, List.set_cons_succ, i64_w, i32_w];rfl
     refine pu_ 15 (some 33) (fl_ 17 16) ?_;refine pu_ 16 (some 34) (fl_ 17 17) ?_;refine done_ (by kernel_rfl) ?_
     try go_wp2
     go_roundg k2
     case measure => have := HK1.out; have := HK2.out; omega
     case rel => exact ⟨(x0_2), (wrap64 (x6_1 + 1)), rs_, H', ⟨by have := HK1.out; have := HK2.out; omega⟩, ⟨Rl_ HO_0.out⟩, ⟨by repeat (first | (with_reducible first | exact HK.out | apply Kept.alloc | apply Kept.drewN | apply Kept.drew) | exact HK.out)⟩, ⟨Bl_ HB⟩⟩
theorem pdqC_calls (cf : Int → Int → Option Int) (g : Nat) (lb : Array Value) (eg : ∀ args w, (callFunc g args).run Tryz.prog w = .ok (.enter g args) w) (k : Nat) (P0_ : Nat → Prop) (u9000_ : Value) (l0 : List Int) (lim : Int) (r : List Int) (w0 w : World) (hn : l0.length ≤ 12) (hp : ∀ W x y c, Kept w W (fun k_ => P0_ k_) → cf x y = some c → Calls Tryz.prog g (#[.int .i64 x, .int .i64 y] ++ lb) W fun e w' => e = .returned (.int .i64 c) ∧ Drawn0 W w') (hB : Below w0.heap.size w0 w) (ho0 : Kd.R (Kd.int .i64) 3 w w0.heap.size P0_ u9000_ l0) (h : insC.f cf k l0 0 (l0.length : Int) = some r) :
 Calls Tryz.prog 115 #[u9000_, .int .i64 0, .int .i64 (l0.length : Int), .int .i64 lim, .func (.func g) #[] lb] w fun e w' => e = .returned (.tuple #[]) ∧ Kd.R (Kd.int .i64) 3 w' w0.heap.size (fun k_ => (P0_ k_ ∨ w.heap.size ≤ k_)) u9000_ r ∧ Below w0.heap.size w0 w' ∧ Kept w w' (fun k_ => P0_ k_) := by
 have HB := a_ hB;have HO := a_ ho0;have H := a_ h;have HP := a_ hp;have HN := Lib.hid hn;have d1 : decide (l0.length ≤ 12) = true := decide_eq_true hn
 have ew : wrap64 (l0.length : Int) = (l0.length : Int) := by unfold wrap64; omega
 have d2 : decide ((l0.length : Int) ≤ 12) = true := decide_eq_true (by omega);clear hB ho0 h hn hp;go_enter Tryz.func115, Tryz.ntmps115;go_wp2;go_loopg [1, 2, 3] 0 (fun gg v1 v2 v3 wr => v1 = .int .i64 0 ∧ v2 = .int .i64 (l0.length : Int) ∧ v3 = .int .i64 lim ∧ wr = w)
 case atStart => exact ⟨rfl, rfl, rfl, rfl⟩
 case round =>
  obtain ⟨rfl, rfl, rfl, rfl⟩ := hrel;go_wp2_with (first | ((with_reducible refine (insC.calls cf g lb eg k P0_ u9000_ l0 0 (l0.length : Int) r w0 _ HP.out HB.out HO.out H.out).mono ?_); rintro e w1 ⟨rfl, ho, hb, hk⟩; have HO1 := a_ ho; have HB1 := a_ hb; have HK1 := a_ hk; clear ho hb hk HO HB));refine bodyPost_ret (v := .tuple #[]) (by simp [results, Tryz.results115, go_sem]) rfl ?_;exact ⟨rfl, HO1.out, HB1.out, HK1.out⟩
theorem sortC_calls (cf : Int → Int → Option Int) (g : Nat) (lb : Array Value) (eg : ∀ args w, (callFunc g args).run Tryz.prog w = .ok (.enter g args) w) (k : Nat) (P0_ : Nat → Prop) (u9000_ : Value) (l0 : List Int) (r : List Int) (w0 w : World) (hn : l0.length ≤ 12) (hp : ∀ W x y c, Kept w W (fun k_ => P0_ k_) → cf x y = some c → Calls Tryz.prog g (#[.int .i64 x, .int .i64 y] ++ lb) W fun e w' => e = .returned (.int .i64 c) ∧ Drawn0 W w') (hB : Below w0.heap.size w0 w) (ho0 : Kd.R (Kd.int .i64) 3 w w0.heap.size P0_ u9000_ l0) (h : insC.f cf k l0 0 (l0.length : Int) = some r) :
 Calls Tryz.prog 99 #[u9000_, .func (.func g) #[] lb] w fun e w' => e = .returned (.tuple #[]) ∧ Kd.R (Kd.int .i64) 3 w' w0.heap.size (fun k_ => (P0_ k_ ∨ w.heap.size ≤ k_)) u9000_ r ∧ Below w0.heap.size w0 w' ∧ Kept w w' (fun k_ => P0_ k_) := by
 obtain ⟨A, c, rfl⟩ := Kd.R_slice ho0;have HB := a_ hB;have HO := a_ ho0;have H := a_ h;have HP := a_ (show ∀ (q : Nat) (W : World) (x y c : Int), Kept (w.drewN q) W (fun k_ => P0_ k_) → cf x y = some c → Calls Tryz.prog g (#[.int .i64 x, .int .i64 y] ++ lb) W fun e w' => e = .returned (.int .i64 c) ∧ Drawn0 W w' from fun q W x y c hk hc => hp W x y c hk hc);have HN := Lib.hid hn;have ew : IntKind.u64.wrap (l0.length : Int) = (l0.length : Int) := wrapU12 _ (by omega);clear hB ho0 h hn hp;go_enter Tryz.func99, Tryz.ntmps99;go_wp2_with (first | ((with_reducible refine (Len_calls l0.length HN.out _).mono ?_); rintro e w' ⟨⟨m, rfl⟩, ⟨q, rfl⟩⟩) | ((with_reducible refine (pdqC_calls cf g lb eg k P0_ (.slice A l0.length c) l0 m r w0 _ HN.out (HP.out q) (pw_below_drewN HB.out q) (Kd.R_drewN HO.out q) H.out).mono ?_); rintro e w1 ⟨rfl, ho, hb, hk⟩; have HO1 := a_ ho; have HB1 := a_ hb; have HK1 := a_ hk; clear ho hb hk HO HB));go_end0;exact ⟨rfl, HO1.out, HB1.out, HK1.out⟩
theorem firsts1_calls (x y : Int) (B : Nat) (W : World) (hcell : W.cell? ⟨B, 0, none⟩ = some (.int .i64 y)) :
 Calls Tryz.prog 98 #[.int .i64 x, .pointer (some ⟨B, 0, none⟩)] W fun e w' => e = .returned (.bool (!(apartV x y))) ∧ Drawn0 W w' := by
 go_enter Tryz.func98, Tryz.ntmps98;go_wp2_with (go_at_call 71; refine (apart_calls _ _ _).mono ?_; rintro e w' ⟨rfl, ⟨q, rfl⟩⟩);go_ret;exact ⟨rfl, ⟨q, rfl⟩⟩
theorem firsts2_calls (x y : Int) (B : Nat) (A0 : Option Addr) (c0 : Nat) (l0 : List Int) (W : World) (hcell : W.cell? ⟨B, 0, none⟩ = some (.slice A0 l0.length c0)) (hr0 : Kd.C (Kd.int .i64) W A0 l0.length l0) (hx0 : 0 ≤ x) (hx1 : x < (l0.length : Int)) (hy0 : 0 ≤ y) (hy1 : y < (l0.length : Int)) :
 Calls Tryz.prog 100 #[.int .i64 x, .int .i64 y, .pointer (some ⟨B, 0, none⟩)] W fun e w' => e = .returned (.int .i64 (wrap64 (rd l0 x - rd l0 y))) ∧ Drawn0 W w' := by
 obtain ⟨ad, e1, h1⟩ := Kd.at_int hr0 x hx0 hx1;obtain ⟨ad', e2, h2⟩ := Kd.at_int hr0 y hy0 hy1
 cases e1
 obtain rfl : ad = ad' := (by injection e2);replace hx0 := eq_true hx0;replace hx1 := eq_true hx1;replace hy0 := eq_true hy0;replace hy1 := eq_true hy1;have hcl : W.drew.cell? ⟨B, 0, none⟩ = some (.slice (some ad) l0.length c0) := hcell;have h1' : W.drew.cell? (ad.add x.toNat) = some (.int .i64 (rd l0 x)) := h1;have h2' : W.drew.cell? (ad.add y.toNat) = some (.int .i64 (rd l0 y)) := h2;clear hr0 h1 h2 hcell;go_enter Tryz.func100, Tryz.ntmps100;go_wp2;refine start_ (n := 10) (S := fun w' => w'.cell? ⟨B, 0, none⟩ = some (.slice (some ad) l0.length c0) ∧ w'.cell? (ad.add x.toNat) = some (.int .i64 (rd l0 x)) ∧ w'.cell? (ad.add y.toNat) = some (.int .i64 (rd l0 y))) (ds := []) (fl_ 10 0) (by kernel_rfl) rfl rfl ⟨hcl, h1', h2'⟩ (fun hHeld => ?_);refine tk_ 0 (some 6) (fl_ 10 1) hHeld ?_;refine pu_ 1 (some 7) (fl_ 10 2) ?_;refine pu_ 2 (some 8) (fl_ 10 3) ?_;refine tk_ 3 (some 9) (fl_ 10 4) hHeld ?_;refine tk_ 4 (some 10) (fl_ 10 5) hHeld ?_;refine pu_ 5 (some 11) (fl_ 10 6) ?_;refine pu_ 6 (some 12) (fl_ 10 7) ?_;refine tk_ 7 (some 13) (fl_ 10 8) hHeld ?_;refine pu_ 8 (some 14) (fl_ 10 9) ?_;refine pu_ 9 (some 5) (fl_ 10 10) ?_;refine done_ (by kernel_rfl) ?_;go_wp2;refine bodyPost_ret (v := .int .i64 (wrap64 (rd l0 x - rd l0 y))) (by simp [results, Tryz.results100, go_sem]) rfl ?_;exact ⟨rfl, ⟨1, rfl⟩⟩
def fstHit (l : List Int) (i : Nat) : Bool := (l.take i).any fun o => !(apartV o (l.getD i 0))
def fstTo (l : List Int) (i : Nat) : List Int := ((List.range i).filter fun j => !(fstHit l j)).map fun j : Nat => (j : Int)
theorem fstTo_hit {l : List Int} {i : Nat} (h : fstHit l i = true) : fstTo l (i + 1) = fstTo l i := by simp [fstTo, List.range_succ, List.filter_append, h]
theorem fstTo_miss {l : List Int} {i : Nat} (h : fstHit l i = false) : fstTo l (i + 1) = fstTo l i ++ [(i : Int)] := by simp [fstTo, List.range_succ, List.filter_append, h]
theorem fstTo_len (l : List Int) (i : Nat) : (fstTo l i).length ≤ i := by
  have h := List.length_filter_le (fun j => !(fstHit l j)) (List.range i)
  simpa [fstTo] using h
def rungCmp (l : List Int) (x y : Int) : Option Int := if 0 ≤ x ∧ x < (l.length : Int) ∧ 0 ≤ y ∧ y < (l.length : Int) then some (wrap64 (rd l x - rd l y)) else none
def impl_firsts.f (k : Nat) (l0 : List Int) : Option (List Int) := if l0.length ≤ 1000 ∧ (fstTo l0 l0.length).length ≤ 12 then insC.f (rungCmp l0) k (fstTo l0 l0.length) 0 ((fstTo l0 l0.length).length : Int) else none
theorem impl_firsts.mono : ∀ a0 k, LeO (impl_firsts.f k a0) (impl_firsts.f (k + 1) a0) := fun _ _ => LeO.ite (insC.mono _ _ _ _ _) (LeO.refl _)
theorem fst1_enters : ∀ args w, (callFunc 98 args).run Tryz.prog w = .ok (.enter 98 args) w := enters_of Tryz.func98 (by kernel_rfl) rfl
theorem fst2_enters : ∀ args w, (callFunc 100 args).run Tryz.prog w = .ok (.enter 100 args) w := enters_of Tryz.func100 (by kernel_rfl) rfl
theorem impl_firsts.calls (k : Nat) (A0 : Option Addr) (c0 : Nat) (l0 : List Int) (r : List Int) (w : World) (hr0 : Kd.C (Kd.int .i64) w A0 l0.length l0) (hc0 : l0.length ≤ c0) (h : impl_firsts.f k l0 = some r) :
 Calls Tryz.prog 79 #[.slice A0 l0.length c0] w fun e w' => ∃ v0_ : Value, e = .returned v0_ ∧ Kd.R (Kd.int .i64) 3 w' w.heap.size (fun _ => True) v0_ r ∧ Below w.heap.size w w' := by
 unfold impl_firsts.f at h;by_cases hn : l0.length ≤ 1000 ∧ (fstTo l0 l0.length).length ≤ 12
 case neg => rw [if_neg hn] at h; cases h
 rw [if_pos hn] at h;have HR := a_ hr0;have HC := a_ hc0;have HN := Lib.hid hn.1;have HN2 := Lib.hid hn.2;have HS := a_ h;have HB := a_ (Below.refl w.heap.size w);clear hr0 hc0 hn h;go_enter Tryz.func79, Tryz.ntmps79;go_wp2_with (first | ((with_reducible refine gate_dst (N := 1) rfl ?_); refine box_event ?hg (N := 1) ?hd (cs := #[.slice A0 l0.length c0]) (t := 24) ?hr ?_; (case hd => rfl); (case hg => rfl); (case hr => first | (go_simp; done) | (go_simp; rfl)); intro gb hg w1 hbox hb; have n0_ := a_ (below_step HB.out hb); clear HB; have HB := n0_; clear n0_; have BKL := a_ hbox; have GB := Lib.hid (show w.heap.size ≤ gb by rw [hg]; exact Nat.le_refl _); clear hbox hb hg) | ((with_reducible refine gate_dst (N := 6) rfl ?_); refine Kd.R_lit (Kd.int .i64) _ 3 ?hg (N := 6) ?hd (xs := ([] : List (Int))) (inner := []) (ok := (fun k_ => k_ ≠ gb)) (okp := fun _ => False) ?hr ?hp (fun _ hk => hk.elim) (Nat.ne_of_gt (blk_lt BKL.out)) (Below.refl _ _) (Nat.le_refl _) (by simp) ?_; (case hd => rfl); (case hg => rfl); (case hr => first | (go_simp; done) | (go_simp; rfl)); (case hp => exact (Reps.none _ _)); intro v6 w2 ho hb hg_ hnew_; clear hg_ hnew_; have HO := a_ (Kd.R_lower ho (below_size HB.out)); have n0_ := a_ (below_step HB.out hb); have n1_ := a_ (blk_below BKL.out hb); have hcx0 : w2.cell? ⟨gb, 0, none⟩ = some (.slice A0 l0.length c0) := (blk_cell (blk_below BKL.out hb) 0).trans rfl; clear HB BKL hb ho; have HB := n0_; have BKL := n1_; clear n0_ n1_));clear hcx0;go_loopg [3, 9] l0.length (fun gg v3 v9 wr => ∃ i : Nat, i ≤ l0.length ∧ l0.length - i ≤ gg ∧ v9 = .int .i64 (i : Int) ∧ Aside0 (Kd.R (Kd.int .i64) 3 wr w.heap.size (fun k_ => k_ ≠ gb) v3 (fstTo l0 i)) ∧ Aside0 (wr.heap[gb]? = some (.cells #[.slice A0 l0.length c0] 24 (0, 0))) ∧ Aside0 (Below w.heap.size w wr))
 case atStart => exact ⟨0, Nat.zero_le _, by omega, rfl, HO, BKL, HB⟩
 case round =>
  clear HO HB BKL;obtain ⟨i, hi, hgg, rfl, HO, BKL, HB⟩ := hrel;by_cases hlt : i < l0.length
  ·have d1 : decide ((i : Int) < (l0.length : Int)) = true := decide_eq_true (by omega)
   have p1 : 0 ≤ ((i : Nat) : Int) := by omega
   have q1 : ((i : Nat) : Int) < (l0.length : Int) := by omega
   have q1' : ((i : Nat) : Int) ≤ (c0 : Int) := by have := HC.out; omega
   obtain ⟨ad1, e1, hx1_0⟩ := Kd.at_int HR.out (i : Int) p1 q1
   cases e1
   obtain ⟨y, hy⟩ : ∃ y, l0.getD i 0 = y := ⟨_, rfl⟩
   have hrd : rd l0 (i : Int) = y := by rw [← hy]; unfold rd; simp [hlt]
   rw [hrd, show ((i : Int)).toNat = i from rfl] at hx1_0;replace hx1_0 := (HB.out.cell (World.block_lt_of_cell? w _ hx1_0)).trans hx1_0;have HI := Lib.hid hlt;have HGG := Lib.hid hgg;have HWI := Lib.hid (show wrap64 ((i : Int) + 1) = ((i + 1 : Nat) : Int) by have := HN.out; unfold wrap64; omega);have HY := Lib.hid hy;have hcb : (wr.alloc (.cells #[.int .i64 y] 3)).cell? ⟨gb, 0, none⟩ = some (.slice (some ad1) l0.length c0) := (blk_cell (blk_alloc BKL.out _) 0).trans rfl;have HOa := a_ (Kd.R_alloc HO.out (.cells #[.int .i64 y] 3 (0, 0)));have HBa := a_ (below_alloc HB.out (.cells #[.int .i64 y] 3 (0, 0)));have BKa := a_ (blk_alloc BKL.out (.cells #[.int .i64 y] 3 (0, 0)))
   have HL : (l0.take i).length = i := by simp; omega
   have hcon := ContainsFunc_calls (fun o => !(apartV o y)) 98 #[.pointer (some ⟨wr.heap.size, 0, none⟩)] fst1_enters (some ad1) c0 (l0.take i) (wr.alloc (.cells #[.int .i64 y] 3)) (Kd.C_take (Kd.C_below (Kd.C_below HR.out HB.out) (below_alloc (Below.refl _ _) _)) (by omega)) (fun W' x _ hb => firsts1_calls x y wr.heap.size W' ((hb.cell (p := ⟨wr.heap.size, 0, none⟩) (by simp)).trans ((blk_cell (blk_new wr _) 0).trans rfl)));rw [HL, show (l0.take i).any (fun o => !(apartV o y)) = fstHit l0 i by unfold fstHit; rw [hy]] at hcon;have HCON := a_ hcon;replace p1 := eq_true p1;replace q1 := eq_true q1;replace q1' := eq_true q1';clear hrd hy hlt hi hgg hcon HO HB BKL
   cases hh : fstHit l0 i with
   | true =>
    have HH := Lib.hid hh;rw [hh] at HCON;clear hh;go_wp2_with (first | (go_at_call 68; refine (HCON.out).mono ?_; rintro e w' ⟨rfl, ⟨q2, rfl⟩⟩));go_roundg (l0.length - (i + 1))
    case measure => have := HI.out; have := HGG.out; omega
    case rel => exact ⟨i + 1, HI.out, Nat.le_refl _, by rw [← HWI.out], ⟨by rw [fstTo_hit HH.out]; exact Kd.R_drewN HOa.out q2⟩, ⟨blk_drewN BKa.out q2⟩, ⟨pw_below_drewN HBa.out q2⟩⟩
   | false =>
    have HH := Lib.hid hh;rw [hh] at HCON;clear hh;have HLF := Lib.hid (fstTo_len l0 i);go_wp2_with (first | (go_at_call 68; refine (HCON.out).mono ?_; rintro e w' ⟨rfl, ⟨q2, rfl⟩⟩; have n0_ := a_ (Kd.R_drewN HOa.out q2); have n1_ := a_ (pw_below_drewN HBa.out q2); have n2_ := a_ (blk_drewN BKa.out q2); clear HOa HBa BKa; have HOa := n0_; have HBa := n1_; have BKa := n2_; clear n0_ n1_ n2_; generalize World.drewN (wr.alloc (.cells #[.int .i64 y] 3)) q2 = wz at HOa HBa BKa ⊢) | ((with_reducible refine gate_builtin (b := .append) (xs := #[.tmp 20, .tmp 22]) rfl ?_); at_builtin; refine Kd.R_append (Kd.int .i64) (w0 := w) w.heap.size rfl (.tmp 20) (.tmp 22) 24 3 (.int .i64 0) 8 rfl Tryz.underlying24 info3 rfl (by decide) (by omega) u3 (fstTo l0 i) (i : Int) [.int .i64 (i : Int)] (fun k_ => k_ ≠ gb) (fun _ => False) rfl rfl ?aP (fun _ hk => hk.elim) ?aF ?aO ?aB ?aS ?aL ?_; (case aP => exact rfl); (case aB => exact HBa.out); (case aF => exact (fun k_ hk => Nat.ne_of_gt (Nat.lt_of_lt_of_le (blk_lt BKa.out) hk))); (case aO => exact HOa.out); (case aS => exact below_size HBa.out); (case aL => exact (by have := HLF.out; have := HN.out; have := HI.out; omega)); intro v2 wA ho hb hg hat; have n2_ := a_ (blk_grown BKa.out hg (fun e_ => (HOa.out.1 gb e_.symm) rfl)); clear HOa HBa BKa; have HOa := a_ ho; have HBa := a_ hb; have BKa := n2_; clear ho hb hg hat n2_));go_roundg (l0.length - (i + 1))
    case measure => have := HI.out; have := HGG.out; omega
    case rel => exact ⟨i + 1, HI.out, Nat.le_refl _, by rw [← HWI.out], ⟨by rw [fstTo_miss HH.out]; exact HOa.out⟩, BKa, HBa⟩
  ·have d1 : decide ((i : Int) < (l0.length : Int)) = false := decide_eq_false (by omega)
   obtain rfl : i = l0.length := by omega
   have HP := a_ (show ∀ W x y c, Kept wr W (fun k_ => k_ ≠ gb ∧ w.heap.size ≤ k_) → rungCmp l0 x y = some c → Calls Tryz.prog 100 (#[.int .i64 x, .int .i64 y] ++ #[.pointer (some ⟨gb, 0, none⟩)]) W fun e w' => e = .returned (.int .i64 c) ∧ Drawn0 W w' from fun W x y c hk hc => by
    unfold rungCmp at hc;split at hc
    ·rename_i hb4;injection hc with hc;subst hc;exact firsts2_calls x y gb A0 c0 l0 W ((blk_cell (blk_kept BKL.out hk (fun h => h.1 rfl)) 0).trans rfl) (Kd.C_kept_came (Kd.heap_int _) HR.out HB.out (fun _ h => h.2) W hk) hb4.1 hb4.2.1 hb4.2.2.1 hb4.2.2.2
    ·cases hc)
   have HO2 := a_ (show Kd.R (Kd.int .i64) 3 wr w.heap.size (fun k_ => k_ ≠ gb ∧ w.heap.size ≤ k_) u3 (fstTo l0 l0.length) from Kd.R_of_own (Kd.own_of_R HO.out) (fun k_ hk_ => ⟨HO.out.1 k_ hk_, Kd.R_base HO.out k_ hk_⟩));obtain ⟨L, hL⟩ : ∃ L, L = fstTo l0 l0.length := ⟨_, rfl⟩;rw [← hL] at HS HO2 HN2;clear hgg hi HO hL;go_wp2_with (first | ((with_reducible refine (sortC_calls (rungCmp l0) 100 #[.pointer (some ⟨gb, 0, none⟩)] fst2_enters k (fun k_ => k_ ≠ gb ∧ w.heap.size ≤ k_) u3 L r w _ HN2.out HP.out HB.out HO2.out HS.out).mono ?_); rintro e w5 ⟨rfl, ho, hb, hk⟩; have HO5 := a_ ho; have HB5 := a_ hb; clear ho hb hk));go_ret;exact ⟨_, rfl, Kd.R_mono HO5.out (fun _ _ => trivial), HB5.out⟩


/-! ### slices_Clone_int_int: function 83 -/
def slices_Clone_int_int.f (l0 : List Int) : Option (List Int) := if l0.length ≤ 17592186044416 then some l0 else none
theorem slices_Clone_int_int.calls (A0 : Option Addr) (c0 : Nat) (l0 : List Int) (r : List Int) (w : World) (hr0 : Kd.C (Kd.int .i64) w A0 l0.length l0) (hc0 : l0.length ≤ c0) (h : slices_Clone_int_int.f l0 = some r) :
 Calls Tryz.prog 83 #[.slice A0 l0.length c0] w fun e w' => ∃ v0_ : Value, e = .returned (v0_) ∧ Kd.R (Kd.int .i64) 3 w' w.heap.size (fun _ => True) v0_ r ∧ Below w.heap.size w w' := by
 unfold slices_Clone_int_int.f at h;by_cases hb : l0.length ≤ 17592186044416
 ·rw [if_pos hb] at h;obtain rfl := Option.some.inj h;clear h
  have q22 : ∀ (w : World) (a : Option Addr) (n c n' c' : Nat), (binOp .eql 24 (.slice a n c) (.slice none n' c')).run Tryz.prog w = .ok (.bool a.isNone) w := fun w a n c n' c' => Lib.run_eql_slice_nil w _ _ a n c n' c' Tryz.underlying24
  cases A0 with
  | none =>
   have h0 : l0 = [] := by
    have := hr0.2.2
    cases l0 with
    | nil => rfl
    | cons x t => obtain ⟨ad, e, _⟩ := this (by simp); cases e
   subst h0;clear hr0;go_enter Tryz.func83, Tryz.ntmps83;go_wp2;go_ret;exact ⟨_, rfl, Kd.R_nil _ _ _ _ _, Below.refl _ _⟩
  | some ad =>
   have A := a_ (show ∀ j u, (encs (Value.int .i64) l0)[j]? = some u → w.cell? (ad.add j) = some u from fun j u hj => by
    obtain ⟨hj1, hj2⟩ := List.getElem?_eq_some_iff.1 hj
    have hj1' : j < l0.length := by simpa [encs] using hj1
    obtain ⟨ad', e, hcell⟩ := Kd.at_int hr0 (j : Int) (by omega) (by omega);injection e with e;subst e;rw [show ((j : Int)).toNat = j from rfl] at hcell;rw [hcell, ← hj2]
    simp [encs, rd, hj1'])
   have HC := a_ hc0;have HBB := Lib.hid hb;clear hr0 hc0 hb;obtain ⟨i0, hi, hz0, hz1, hz2⟩ := info_parts info3;go_enter Tryz.func83, Tryz.ntmps83;go_wp2_with (at_builtin; refine wpList_append_own _ rfl _ _ 24 rfl w.heap.size 3 i0 (.int .i64 0) 1 8 Tryz.underlying24 hi hz0 hz1 hz2 rfl (by decide) _ _ _ rfl (World.ownsRow_made w #[] 0 (Nat.le_refl _) (Nat.zero_le _) (by simp)) ad l0.length c0 (encs (Value.int .i64) l0) rfl ?qc1 ?qc2 ?qc3 ?qc4 ?qc5 ?qc6 ?_)
   case qc1 => simp [encs]
   case qc2 =>
    intro j u hj;exact Lib.cell?_alloc_some _ (A.out j u hj)
   case qc3 => intro u hu; simp [encs] at hu; obtain ⟨x, _, rfl⟩ := hu; rfl
   case qc4 => have := HBB.out; simp [maxLen]; omega
   case qc5 => have := HBB.out; omega
   case qc6 => simp
   intro v' w1 hown hgrow hnil;go_wp2;go_ret;refine ⟨v', rfl, Kd.R_of_own (by simpa using hown) (fun _ _ => trivial), ?_⟩;exact ((Below.refl _ w).alloc (Nat.le_refl _) _).grown hgrow (by simp) (by intro k hk; simp [Value.ownBlock] at hk; omega)
 ·rw [if_neg hb] at h;exact absurd h (by simp)


/-! ### impl_without: function 80 -/
-- ONLY 83
theorem delete_calls (g cap i j : Nat) (zs : List Int) (w : World) (hH : Sort.Holds (Value.int .i64) w g 0 zs.toArray) (hcap : zs.length ≤ cap) (hm : cap ≤ 9223372036854775807) (hij : i ≤ j) (hj : j ≤ zs.length) :
    Calls Tryz.prog 101 #[.slice (some ⟨g, 0, none⟩) zs.length cap, .int .i64 i, .int .i64 j] w fun e w' => e = .returned (.slice (some ⟨g, 0, none⟩) (zs.length - (j - i)) cap) ∧ ∃ q, w' = Sort.putRow (Value.int .i64) (Sort.ahead w q) g 0 (zs.take i ++ zs.drop j ++ List.replicate (j - i) 0).toArray :=
  Any.slices_Delete_int Tryz.lays2_23 g 0 cap i j zs w hH hcap hm hij hj
theorem delete_one (g cap i : Nat) (zs : List Int) (w : World) (hH : Sort.Holds (Value.int .i64) w g 0 zs.toArray) (hcap : zs.length ≤ cap) (hm : cap ≤ 9223372036854775807) (hi : i < zs.length) (hw : wrap64 ((i : Int) + 1) = ((i + 1 : Nat) : Int)) :
    Calls Tryz.prog 101 #[.slice (some ⟨g, 0, none⟩) zs.length cap, .int .i64 i, .int .i64 (wrap64 ((i : Int) + 1))] w fun e w' => e = .returned (.slice (some ⟨g, 0, none⟩) (zs.length - (i + 1 - i)) cap) ∧ ∃ q, w' = Sort.putRow (Value.int .i64) (Sort.ahead w q) g 0 (zs.take i ++ zs.drop (i + 1) ++ List.replicate (i + 1 - i) 0).toArray := by
  rw [hw]
  exact delete_calls g cap i (i + 1) zs w hH hcap hm (Nat.le_succ i) hi
theorem own_cells {e : TypeId} {w : World} {base : Nat} {ok : Nat → Prop} {v : Value} {xs : List Int} (h : Kd.R (Kd.int .i64) e w base ok v xs) (hp : 0 < xs.length) : ∃ g cap cur, v = .slice (some ⟨g, 0, none⟩) xs.length cap ∧ base ≤ g ∧ w.heap[g]? = some (.cells cur e (0, 0)) ∧ xs.length ≤ cap ∧ cap ≤ maxLen ∧ cur.size = cap ∧ cur.toList.take xs.length = xs.map (Value.int .i64) := by
  have h1 := Kd.own_of_R h
  rcases h1.2 with ⟨_, h0⟩ | ⟨g, cap, cur, ev, hb, hc, h1, h2, h3, h4⟩
  · omega
  · exact ⟨g, cap, cur, ev, hb, hc, h1, h2, by simpa using h3, by simpa [encs] using h4⟩
def impl_without.f (l0 : List Int) (a1 : Int) : Option (List Int) := if l0.length ≤ 1000 ∧ 0 ≤ a1 ∧ a1 < (l0.length : Int) then some (l0.take a1.toNat ++ l0.drop (a1.toNat + 1)) else none
theorem without_end {e : TypeId} {w w1 : World} {g cap q : Nat} {cur : Array Value} {r : List Int} (hb : Below w.heap.size w w1) (hg : w.heap.size ≤ g) (hc : w1.heap[g]? = some (.cells cur e (0, 0))) (h1 : r.length + 1 ≤ cap) (h2 : cap ≤ maxLen) (h3 : cur.size = cap) :
    Kd.R (Kd.int .i64) e (Sort.putRow (Value.int .i64) (Sort.ahead w1 q) g 0 (r ++ [0]).toArray) w.heap.size (fun _ => True) (.slice (some ⟨g, 0, none⟩) r.length cap) r ∧ Below w.heap.size w (Sort.putRow (Value.int .i64) (Sort.ahead w1 q) g 0 (r ++ [0]).toArray) := by
  have hh := heap_sortedI (n := q) (os := #[]) (r ++ [0]).toArray hc
  have hgr := grownBy_sortedI (w := w1) (g := g) (n := q) (os := #[]) (r ++ [0]).toArray
  have eg : ∀ W : World, Sort.grow W #[] = W := by intro W; simp [Sort.grow]
  rw [eg] at hh hgr
  refine ⟨Kd.R_of_own ⟨by simp [encs], .inr ⟨g, cap, _, rfl, hg, hh, by omega, h2, by simp [Sort.putCells, h3], ?_⟩⟩ (fun _ _ => trivial), hb.grown hgr (Nat.le_trans hb.size (Nat.le_refl _)) (by intro k hk; simp at hk; omega)⟩
  have ht := take_putCellsI cur (r ++ [0]) (by simp; omega)
  have h4 := congrArg (List.take r.length) ht
  rw [List.take_take] at h4
  simpa [encs] using h4
theorem impl_without.calls (A0 : Option Addr) (c0 : Nat) (l0 : List Int) (a1 : Int) (r : List Int) (w : World) (hr0 : Kd.C (Kd.int .i64) w A0 l0.length l0) (hc0 : l0.length ≤ c0) (h : impl_without.f l0 a1 = some r) :
 Calls Tryz.prog 80 #[.slice A0 l0.length c0, .int .i64 a1] w fun e w' => ∃ v0_ : Value, e = .returned v0_ ∧ Kd.R (Kd.int .i64) 3 w' w.heap.size (fun _ => True) v0_ r ∧ Below w.heap.size w w' := by
 unfold impl_without.f at h;by_cases hn : l0.length ≤ 1000 ∧ 0 ≤ a1 ∧ a1 < (l0.length : Int)
 case neg => rw [if_neg hn] at h; cases h
 rw [if_pos hn] at h;have hr := Option.some.inj h;obtain ⟨i, rfl⟩ : ∃ i : Nat, a1 = i := ⟨a1.toNat, by omega⟩;rw [show ((i : Int)).toNat = i from rfl] at hr;have HM := a_ (show slices_Clone_int_int.f l0 = some l0 by unfold slices_Clone_int_int.f; rw [if_pos (by omega)]);have HR := a_ hr0;have HC := a_ hc0;have HI := Lib.hid (show i < l0.length by omega);have HRR := a_ hr;have HW := Lib.hid (show wrap64 ((i : Int) + 1) = ((i + 1 : Nat) : Int) by unfold wrap64; omega);clear hr0 hc0 hn h hr;go_enter Tryz.func80, Tryz.ntmps80;go_wp2_with (first | ((with_reducible refine gate_callee (f := 83) rfl ?_); refine goesL_ (some 6) rfl rfl Tryz.func83 (by kernel_rfl) rfl #[.slice A0 l0.length c0] rfl (by (try simp only [List.map_toArray, List.map_cons, List.map_nil]); first | done | rfl) ?_; (with_reducible refine (slices_Clone_int_int.calls A0 c0 l0 l0 _ HR.out HC.out HM.out).mono ?_); rintro e w1 ⟨v, rfl, ho, hb⟩; refine ⟨_, rfl, ?_⟩; have HB := a_ hb; obtain ⟨g, cap, cur, ev, hbg, hc, h1, h2, h3, h4⟩ := own_cells ho (by have := HI.out; omega); subst ev; have HG := Lib.hid hbg; have HCE := a_ hc; have H1 := Lib.hid h1; have H2 := Lib.hid h2; have H3 := Lib.hid h3; have HD := a_ (holds_of_blockI hc h4); clear hb ho hbg hc h1 h2 h3 h4) | ((with_reducible refine gate_callee (f := 101) rfl ?_); refine goesL_ (some 10) rfl rfl Tryz.func101 (by kernel_rfl) rfl #[.slice (some ⟨g, 0, none⟩) l0.length cap, .int .i64 i, .int .i64 (wrap64 ((i : Int) + 1))] rfl (by (try simp only [List.map_toArray, List.map_cons, List.map_nil]); first | done | rfl) ?_; (with_reducible refine (delete_one g cap i l0 _ HD.out H1.out (by have := H2.out; unfold maxLen at this; omega) HI.out HW.out).mono ?_); rintro e w2 ⟨rfl, ⟨q, rfl⟩⟩; refine ⟨_, rfl, ?_⟩));go_ret
 have hl : r.length + 1 = l0.length := by rw [← HRR.out]; have := HI.out; simp; omega
 have he := without_end (r := r) (q := q) HB.out HG.out HCE.out (by have := H1.out; omega) H2.out H3.out
 have e1 : l0.length - 1 = r.length := by omega
 have e2 : l0.take i ++ (l0.drop (i + 1) ++ [0]) = r ++ [0] := by rw [← HRR.out, List.append_assoc]
 rw [e2];exact ⟨.slice (some ⟨g, 0, none⟩) r.length cap, by rw [← e1]; rfl, he.1, he.2⟩


/-! ### impl_firstSame: function 45 -/
def impl_firstSame.l0 : Nat → List Int → List Int → Option (List Int)
 | 0, _, _ => none
 | k + 1, x0, x3 => if (x0.length : Int) > 0 then ((impl_firsts.f k x0).bind fun t405 => (if 0 < (t405.length : Int) then (if 0 ≤ (rd t405 0) then (if (rd t405 0) < (x0.length : Int) then (if x3.length < 17592186044416 then ((impl_without.f x0 (rd t405 0)).bind fun t413 => (impl_firstSame.l0 k t413 (x3 ++ [rd x0 (rd t405 0)]))) else (none)) else (none)) else (none)) else (none))) else (some x3)
def impl_firstSame.f (k : Nat) (l0 : List Int) : Option (List Int) := impl_firstSame.l0 k l0 (([] : List Int))
theorem impl_firstSame.mono_l : ∀ k, (∀ y0 y1, LeO (impl_firstSame.l0 k y0 y1) (impl_firstSame.l0 (k + 1) y0 y1))
 | 0 => fun _ _ r h => by simp [impl_firstSame.l0] at h
 | k + 1 => by
  have ih0 := impl_firstSame.mono_l k
  ·intro y0 y1;unfold impl_firstSame.l0;have m1 := @impl_firsts.mono;exact mo_
theorem impl_firstSame.mono : ∀ a0 k, LeO (impl_firstSame.f k a0) (impl_firstSame.f (k + 1) a0) := by
 intro a0 k;have ih0 := impl_firstSame.mono_l k;unfold impl_firstSame.f;exact mo_
theorem impl_firstSame.calls (k : Nat) (P0_ : Nat → Prop) (A0 : Option Addr) (c0 : Nat) (l0 : List Int) (r : List Int) (w : World) (hs0 : Kd.V (Kd.int .i64) 3 w w.heap.size (fun k_ => P0_ k_) (.slice A0 l0.length c0) l0) (h : impl_firstSame.f k l0 = some r) :
 Calls Tryz.prog 45 #[.slice A0 l0.length c0] w fun e w' => ∃ v0_ : Value, e = .returned (v0_) ∧ Kd.R (Kd.int .i64) 3 w' w.heap.size (fun k_ => (w.heap.size ≤ k_)) v0_ r ∧ Below w.heap.size w w' := by
 have HO0 := a_ (show Kd.V (Kd.int .i64) 3 w w.heap.size (fun k_ => (P0_ k_ ∨ w.heap.size ≤ k_)) (.slice A0 l0.length c0) l0 from Kd.V_mono hs0 (fun k_ hk => .inl hk));have HB := a_ (Below.refl w.heap.size w);have H := h;unfold impl_firstSame.f at H;clear h;generalize hy_ : (([] : List Int)) = y402 at H;have Ny402 := a_ hy_.symm;clear hy_;have H' := a_ H;clear H;go_enter Tryz.func45, Tryz.ntmps45;go_wp2_with (first | ((with_reducible refine gate_dst (N := 5) rfl ?_); refine Kd.R_lit (Kd.int .i64) _ 3 ?hg (N := 5) ?hd (xs := ([] : List Int)) (inner := []) (ok := fun _ => True) (okp := fun _ => True) ?hr ?hp (fun _ hk => hk) trivial (Below.refl _ _) (Nat.le_refl _) (by simp) ?_; (case hd => rfl); (case hg => rfl); (case hr => first | (go_simp; done) | (go_simp; rfl)); (case hp => exact (Reps.none _ _)); intro v403 w2 ho3 hb hg_ hnew_; clear hg_ hnew_; (first | rw [← Ny402.out] at ho3 | (simp only [Int.reduceToNat] at ho3; rw [← Ny402.out] at ho3)); replace HO0 := a_ (Kd.V_elder' (Vl_ HO0.out) (Kd.R_base ho3) hb); have HO404 := a_ (Kd.R_lower (Kd.R_newM (M := fun k_ => (w.heap.size ≤ k_)) ho3 (below_size (Bl_ HB)) (fun k_ h_ => h_)) (below_size (Bl_ HB))); replace HB := Bs_ HB hb; clear hb ho3));go_loopg [0, 3] k (fun kq v0 v3 w' => ∃ (x0_1 : List Int) (x3_1 : List Int), Aside0 (impl_firstSame.l0 kq x0_1 x3_1 = some r) ∧ Aside0 (kq ≤ k) ∧ Aside0 (Kd.V (Kd.int .i64) 3 w' w.heap.size (fun k_ => (P0_ k_ ∨ w.heap.size ≤ k_) ∧ some k_ ≠ (v3 : Value).ownBlock) v0 x0_1) ∧ Aside0 (Kd.R (Kd.int .i64) 3 w' w.heap.size (fun k_ => (w.heap.size ≤ k_)) v3 x3_1) ∧ Aside0 (Below w.heap.size w w'))
 case atStart => exact ⟨(l0), (y402), H', ⟨Nat.le_refl _⟩, ⟨Vl_ HO0.out⟩, ⟨Rl_ (Kd.R_mono HO404.out (fun _ hk => hk.1))⟩, ⟨Bl_ HB⟩⟩
 case round =>
  clear H';obtain ⟨x0_1, x3_1, HA, HK1, HO_0, HO_3, HB⟩ := hrel
  cases gk with
  | zero => exact absurd HA.out (by simp [impl_firstSame.l0])
  | succ k1 =>
   have H := HA.out;clear HA;simp only [impl_firstSame.l0] at H;rcases ib_ H with ⟨c4, H⟩ | ⟨c4, H⟩
   ·have c4b0 := dgf_ c4;have c4b1 : decide (0 < x0_1.length) = false := decide_eq_false (by omega);clear c4;obtain rfl := s1_ H;obtain ⟨Ao16, co16, eo16⟩ := Kd.V_slice HO_0.out;subst eo16;go_wp2;go_ret;exact ⟨_, re_, Rl_ HO_3.out, Bl_ HB⟩
   have c4b0 := dgt_ c4;have c4b1 : decide (0 < x0_1.length) = true := decide_eq_true (by omega);clear c4;obtain ⟨t405, A5, H⟩ := ob_ H;(try dsimp only at H);obtain ⟨c6, H⟩ := in_ H;have c6b0 := decide_eq_true c6;have c6b1 : decide (0 < t405.length) = true := decide_eq_true (by omega);clear c6;obtain ⟨c7b0, H⟩ := ic_ H;obtain ⟨c8b0, H⟩ := ic_ H;obtain ⟨LMc9, H⟩ := ia_ H;generalize hy_ : (x3_1 ++ [rd x0_1 (rd t405 0)]) = y410 at H;have Ny410 := a_ hy_.symm;clear hy_;obtain ⟨t413, A10, H⟩ := ob_ H;(try dsimp only at H);have H' := a_ H;clear H;obtain ⟨Ao11, co11, eo11⟩ := Kd.V_slice HO_0.out;subst eo11
   go_wp2_with (first | ((with_reducible refine gate_callee (f := 79) rfl ?_); refine gm_ (some 10) Tryz.func79 #[.slice Ao11 x0_1.length co11] rfl ?_; (with_reducible refine (impl_firsts.calls k1 _ _ x0_1 t405 _ ?side1 ?side2 A5.out).mono ?_); (case side1 => repeat (first | exact (Kd.V_reads' HO_0.out).2.2 | (with_reducible refine Kd.C_alloc ?_ _) | (with_reducible refine Kd.C_drewN ?_ _) | (with_reducible refine Kd.C_drew ?_))); (case side2 => exact (Kd.V_reads' HO_0.out).2.1); rintro e w12 ⟨v406, rfl, ho0, hb⟩; refine ⟨_, rfl, ?_⟩; replace HO_0 := a_ (Kd.V_elder' (Vl_ HO_0.out) (Kd.R_base ho0) hb); have HO407 := a_ (Kd.R_lower (Kd.R_new' (Kd.R_newM (M := fun k_ => (w.heap.size ≤ k_)) ho0 (below_size (Bl_ HB)) (fun k_ h_ => h_)) (Kd.R_lt (Rl_ HO_3.out))) (below_size (Bl_ HB))); replace HO_3 := a_ (Kd.R_elder' (Rl_ HO_3.out) (Kd.R_base ho0) hb); replace HB := Bs_ HB hb; (try clear hb); (try clear ho0); obtain ⟨Ao13, co13, eo13⟩ := Kd.R_slice HO407.out; subst eo13; have p408 : 0 ≤ (0 : Int) := (by omega); have q408 : 0 < (t405.length : Int) := od_; obtain ⟨ad408, e408, hx408_0⟩ := Kd.at_int (Kd.R_reads' HO407.out).2.2 0 p408 q408; cases e408; have qi408 : (0 < t405.length) = True := eq_true (by omega); (try rw [show ((0 : Int)).toNat = 0 from rfl] at hx408_0); (try rw [Addr.add_zero'] at hx408_0); replace p408 := eq_true p408; replace q408 := eq_true q408; obtain ⟨ad409, e409, hx409_0, p409, q409⟩ := ai_ (Kd.V_reads' HO_0.out).2.2 (rd t405 0); cases e409) | ((with_reducible refine gate_builtin (b := .append) (xs := #[.tmp 13, .tmp 18]) rfl ?_); at_builtin; refine Kd.R_append (Kd.int .i64) (w0 := w) w.heap.size rfl (.tmp 13) (.tmp 18) 24 3 (.int .i64 0) 8 rfl Tryz.underlying24 info3 rfl (by decide) (by omega) u3 x3_1 (rd x0_1 (rd t405 0)) [.int .i64 (rd x0_1 (rd t405 0))] (fun k_ => (w.heap.size ≤ k_) ∧ some k_ ≠ (.slice (some ad408) t405.length co13 : Value).ownBlock) (fun _ => False) rfl rfl ?aP (fun _ hk => hk.elim) ?aF ?aO ?aB ?aS ?aL ?_; (case aP => exact rfl); (case aB => exact (Bl_ HB)); (case aF => exact (fun k_ hk => ⟨(Nat.le_trans (below_size (Bl_ HB)) hk), Kd.fresh' (Kd.R_lt (Rl_ HO407.out)) k_ hk⟩)); (case aO => exact (Rl_ HO_3.out)); (case aS => exact (below_size (Bl_ HB))); (case aL => have := LMc9.out; omega); intro v411 w14 ho hb hg hat; rw [← Ny410.out] at ho; replace HO_0 := a_ (Kd.V_afterv (ok := (fun k_ => (P0_ k_ ∨ w.heap.size ≤ k_) ∧ some k_ ≠ (.slice (some ad408) t405.length co13 : Value).ownBlock)) (Vl_ (Kd.V_mono HO_0.out (fun _ hk => ⟨⟨hk.1.1, hk.2⟩, hk.1.2⟩))) hg hat); replace HO407 := a_ (Kd.R_after (ok := (fun k_ => (w.heap.size ≤ k_))) (Rl_ (Kd.R_mono HO407.out (fun _ hk => ⟨hk.1.1, hk.2⟩))) hg hat); replace HB := a_ (hb); have HO412 := a_ (ho); clear HO_3; clear ho hb hg hat) | ((with_reducible refine gate_callee (f := 80) rfl ?_); refine gm_ (some 22) Tryz.func80 #[.slice (some ad409) x0_1.length co11, .int .i64 (rd t405 0)] rfl ?_; (with_reducible refine (impl_without.calls _ _ x0_1 (rd t405 0) t413 _ ?side1 ?side2 A10.out).mono ?_); (case side1 => repeat (first | exact (Kd.V_reads' HO_0.out).2.2 | (with_reducible refine Kd.C_alloc ?_ _) | (with_reducible refine Kd.C_drewN ?_ _) | (with_reducible refine Kd.C_drew ?_))); (case side2 => exact (Kd.V_reads' HO_0.out).2.1); rintro e w15 ⟨v414, rfl, ho0, hb⟩; refine ⟨_, rfl, ?_⟩; replace HO_0 := a_ (Kd.V_elder' (Vl_ HO_0.out) (Kd.R_base ho0) hb); have HO415 := a_ (Kd.R_lower (Kd.R_new' (Kd.R_new' (Kd.R_newM (M := fun k_ => (w.heap.size ≤ k_)) ho0 (below_size (Bl_ HB)) (fun k_ h_ => h_)) (Kd.R_lt (Rl_ HO407.out))) (Kd.R_lt (Rl_ HO412.out))) (below_size (Bl_ HB))); replace HO407 := a_ (Kd.R_elder' (Rl_ HO407.out) (Kd.R_base ho0) hb); replace HO412 := a_ (Kd.R_elder' (Rl_ HO412.out) (Kd.R_base ho0) hb); replace HB := Bs_ HB hb; (try clear hb); (try clear ho0)))
   go_roundg k1
   case measure => have := HK1.out; omega
   case rel => exact ⟨(t413), (y410), H', ⟨by have := HK1.out; omega⟩, ⟨Kd.V_mono (Kd.R_V (Rl_ HO415.out)) (fun _ hk => by first | exact ⟨.inr (hk.1.1.1), hk.2⟩ | exact .inr ⟨hk.1.1.1, hk.2⟩ | exact .inr (hk.1.1.1))⟩, ⟨Rl_ (Kd.R_mono HO412.out (fun _ hk => hk.1.1))⟩, ⟨Bl_ HB⟩⟩

/-! ### impl_FirstSame: function 16 -/
def impl_FirstSame.f (k : Nat) (a0_0 : Int) (l0_1 : List Int) : Option (Int × List Int × Bool) := (impl_isLadder.f a0_0 l0_1).bind fun t418 => (if t418 = true then ((impl_firstSame.f k l0_1).bind fun t419 => (some (a0_0, t419, true))) else (some (0, ([] : List Int), false)))
theorem impl_FirstSame.mono : ∀ a0 a1 k, LeO (impl_FirstSame.f k a0 a1) (impl_FirstSame.f (k + 1) a0 a1) := by
 intro a0 a1 k;unfold impl_FirstSame.f;have m1 := @impl_firstSame.mono;exact mo_
def impl_FirstSame.T3 : Bool × List (List Nat × List Nat) := (true, [([], []), ([0], [0]), ([], []), ([2], [2]), ([3], [3]), ([1, 4], [1, 4]), ([5, 4, 0, 1, 2, 3, 4, 5], [5]), ([6, 0, 1, 2, 3, 4, 5, 6], [])])
def impl_FirstSame.B3 : List Nat := [0, 1, 0, 4, 12, 31, 63, 127]
theorem impl_FirstSame.tab3 : rtab .any (opsOf Tryz.f16 3) = impl_FirstSame.T3 := by kernel_rfl
theorem impl_FirstSame.bits3 : waitsOk impl_FirstSame.T3.2 impl_FirstSame.B3 = true := by kernel_rfl
theorem impl_FirstSame.calls (k : Nat) (a0_0 : Int) (A0_1 : Option Addr) (c0_1 : Nat) (l0_1 : List Int) (r1 : Int) (r2 : List Int) (r3 : Bool) (w : World) (hr0_1 : Kd.C (Kd.int .i64) w A0_1 l0_1.length l0_1) (hc0_1 : l0_1.length ≤ c0_1) (h : impl_FirstSame.f k a0_0 l0_1 = some (r1, r2, r3)) :
 Calls Tryz.prog 16 #[.agg #[.int .i64 a0_0, .slice A0_1 l0_1.length c0_1]] w fun e w' => ∃ v1_ : Value, e = .returned (.tuple #[.agg #[.int .i64 r1, v1_], .bool r3]) ∧ Kd.R (Kd.int .i64) 3 w' w.heap.size (fun _ => True) v1_ r2 ∧ Below w.heap.size w w' := by
 have hu26 := Tryz.underlying26;have HR0_1 := a_ hr0_1;have HC0_1 := a_ hc0_1;clear hr0_1 hc0_1;have HB := a_ (Below.refl w.heap.size w);have H := h;unfold impl_FirstSame.f at H;clear h;obtain ⟨t418, A2, H⟩ := ob_ H;(try dsimp only at H);replace H := bc_ H;rcases H with ⟨rfl, H⟩ | ⟨rfl, H⟩
 ·obtain ⟨rfl, rfl, rfl⟩ := s3_ H;go_enter Tryz.func16, Tryz.ntmps16;go_wp2_with (first | ((with_reducible refine gd_ 1 ?_);refine by_ #[.int .i64 a0_0, .slice A0_1 l0_1.length c0_1] 26 HB ?_;intro gb416 w15 BK416 GW416 HB) | ((with_reducible refine gd_ 2 ?_);refine bz_ #[.int .i64 0, .slice none 0 0] 26 HB ?_;intro gb417 w16 BK417 GW417 HB hg hb;obtain ⟨NB416_417, NB417_416, BK416⟩ := nb_ BK416 hg hb;clear hg hb; have hnb17 := NB416_417.out; have hnc17 := NB417_416.out; obtain ⟨hcz18_0, hcz18_1, hfz18_0, hfz18_1⟩ := cf2_ BK416) | ((with_reducible refine gc_ 33 ?_);refine gn_ (some 5) Tryz.func33 (impl_isLadder.calls a0_0 _ _ l0_1 false _ (Cl_ (Kd.C_below HR0_1.out HB.out)) HC0_1.out A2.out) rfl ?_;intro w19 hb; obtain ⟨BK416, BK417, HB⟩ := u2_ hb BK416 BK417 HB;clear hb; obtain ⟨hcz20_0, hcz20_1, hfz20_0, hfz20_1⟩ := cf2_ BK417))
  refine bodyPost_ret (results_ct rfl _ _ gb417 26 #[.int .i64 0, .slice none 0 0] (0, 0) _ rfl (bp_ BK417) Tryz.underlying26 rfl (by kernel_rfl)) rfl ?_;exact ⟨_, re_, nl_, Bl_ HB⟩
 obtain ⟨t419, A4, H⟩ := ob_ H;(try dsimp only at H);obtain ⟨rfl, rfl, rfl⟩ := s3_ H;go_enter Tryz.func16, Tryz.ntmps16
 try go_wp2_with (first | ((with_reducible refine gd_ 1 ?_);refine by_ #[.int .i64 a0_0, .slice A0_1 l0_1.length c0_1] 26 HB ?_;intro gb416 w5 BK416 GW416 HB) | ((with_reducible refine gd_ 2 ?_);refine bz_ #[.int .i64 0, .slice none 0 0] 26 HB ?_;intro gb417 w6 BK417 GW417 HB hg hb;obtain ⟨NB416_417, NB417_416, BK416⟩ := nb_ BK416 hg hb;clear hg hb; have hnb7 := NB416_417.out; have hnc7 := NB417_416.out; obtain ⟨hcz8_0, hcz8_1, hfz8_0, hfz8_1⟩ := cf2_ BK416) | ((with_reducible refine gc_ 33 ?_);refine gn_ (some 5) Tryz.func33 (impl_isLadder.calls a0_0 _ _ l0_1 true _ (Cl_ (Kd.C_below HR0_1.out HB.out)) HC0_1.out A2.out) rfl ?_;intro w9 hb; obtain ⟨BK416, BK417, HB⟩ := u2_ hb BK416 BK417 HB;clear hb))
 replace BK416 := a_ (blk_drew BK416.out);replace BK417 := a_ (blk_drew BK417.out);replace HB := a_ (below_drew1 HB.out);refine start_ (n := 8) (S := fun w' => w'.cell? ⟨gb416, 0, none⟩ = some (.int .i64 a0_0) ∧ w'.cell? ⟨gb416, 1, none⟩ = some (.slice A0_1 l0_1.length c0_1)) (ds := []) #[false, false, false, false, false, false, false, false] (by kernel_rfl) rfl rfl ⟨(blk_cell BK416.out 0).trans rfl, (blk_cell BK416.out 1).trans rfl⟩ (fun hHeld => ?_); refine with_tabW impl_FirstSame.tab3 impl_FirstSame.bits3 (fun HT_ HW_ => ?_);generalize w9.drew = w10 at BK416 BK417 HB hHeld ⊢;refine puw_ 0 8 ?_;refine puw_ 2 10 ?_;refine tkw_ 1 9 hHeld ?_;refine tkw_ 3 11 hHeld ?_;refine one_ (i := 4) (N := some 12) #[true, true, true, true, true, false, false, false] rfl rfl (one_of HT_.out (by kernel_rfl)) (by decide) (fun K hK => ?_);refine gs_ Tryz.func45 (by kernel_rfl) rfl #[.slice A0_1 l0_1.length c0_1] (by rfl) rfl rfl ?_;(with_reducible refine (impl_firstSame.calls k (fun k_ => k_ < w.heap.size) _ _ l0_1 t419 _ ?side1 A4.out).mono ?_);(case side1 => exact Kd.V_mk HC0_1.out (Kd.F_below (Kd.C_F (Kd.heap_int .i64) HR0_1.out) (Bl_ HB)));rintro e w11 ⟨v420, rfl, ho0, hb⟩;refine ⟨_, rfl, ?_⟩;have HO421 := a_ (Kd.R_lower (Kd.R_mono (ok' := fun k_ => True) ho0 (fun _ hk_ => trivial)) (below_size (Bl_ HB)));replace BK416 := blkB_ BK416 hb;replace BK417 := blkB_ BK417 hb;replace HB := Bs_ HB hb;(try clear hb); (try clear hb2); (try clear hk); (try clear hi); (try clear ho0);obtain ⟨Ao12, co12, eo12⟩ := Kd.R_slice HO421.out;(first | subst eo12 | (injection eo12 with f1_ f2_ f3_; have f4_ := f1_.symm; have f5_ := f3_.symm; clear f1_ f2_ f3_; subst f4_; subst f5_))
 refine hK.out _ _ ⟨(blk_cell BK416.out 0).trans rfl, (blk_cell BK416.out 1).trans rfl⟩ (fun hHeld => ?_);clear hK K;refine norm_ (a' := ?_) ?_ ?_;rotate_left
 ·show Act.put _ (some 12) _ = _;simp only [Act.put, List.setIfInBounds_toArray, List.set_cons_zero, List.set_cons_succ, i64_w, i32_w];rfl
 refine puw_ 5 13 ?_;refine one_ (i := 6) (N := none) #[true, true, true, true, true, true, true, false] rfl rfl (one_of HT_.out (by kernel_rfl)) (by decide) (fun K hK => ?_);have hs13 : w11.cell? ⟨gb417, 0, none⟩ = some (.int .i64 0) := (blk_cell BK417.out 0).trans rfl;have hfs13 := fz_ BK417 0;have hns13_0 := NB416_417.out;have hms13_0 := NB417_416.out;have hs14 : w11.cell? ⟨gb417, 1, none⟩ = some (.slice none 0 0) := (blk_cell BK417.out 1).trans rfl;have hfs14 := fz_ BK417 1;have hns14_0 := NB416_417.out;have hms14_0 := NB417_416.out;refine skip_ (w1 := ?_) (by rfl) rfl ?_ ?_;rotate_left
 ·go_simp;rfl
 refine hK.out _ _ ⟨((cell_far (p := ⟨gb417, _, none⟩) NB416_417.out _).trans (((cell_far (p := ⟨gb417, _, none⟩) NB416_417.out _).trans (hHeld.1)))), ((cell_far (p := ⟨gb417, _, none⟩) NB416_417.out _).trans (((cell_far (p := ⟨gb417, _, none⟩) NB416_417.out _).trans (hHeld.2))))⟩ (fun hHeld => ?_);clear hK K;refine puw_ 7 3 ?_;refine done_ (done_of HT_.out (by kernel_rfl)) ?_
 try go_wp2
 refine bodyPost_ret (results_ct rfl _ _ gb417 26 #[.int .i64 a0_0, .slice Ao12 t419.length co12] (0, 0) _ rfl (bp_ BK417) Tryz.underlying26 rfl (by kernel_rfl)) rfl ?_;exact ⟨_, re_, Rl_ (Kd.R_mono (Kd.R_far (p := ⟨gb417, 1, none⟩) (Kd.R_far (p := ⟨gb417, 0, none⟩) (Kd.R_types HO421.out BK417.out (by decide)) (fun _ hk => hk.2) (.int .i64 a0_0)) (fun _ hk => hk.2) (.slice Ao12 t419.length co12)) (fun _ hk => trivial)), Bl_ HB⟩

/-! ### laws_nLadder: function 18 -/
def laws_nLadder.f (k : Nat) (a0_0 : Int) (l0_1 : List Int) (a1_0 : Int) (l1_1 : List Int) : Option (Bool) := if a0_0 = a1_0 then ((laws_nSame.f k l0_1 l1_1).bind fun t424 => (some t424)) else (some false)
theorem laws_nLadder.mono : ∀ a0 a1 a2 a3 k, LeO (laws_nLadder.f k a0 a1 a2 a3) (laws_nLadder.f (k + 1) a0 a1 a2 a3) := by
 intro a0 a1 a2 a3 k;unfold laws_nLadder.f;have m1 := @laws_nSame.mono;exact mo_
theorem laws_nLadder.calls (k : Nat) (a0_0 : Int) (A0_1 : Option Addr) (c0_1 : Nat) (l0_1 : List Int) (a1_0 : Int) (A1_1 : Option Addr) (c1_1 : Nat) (l1_1 : List Int) (r : Bool) (w : World) (hr0_1 : Kd.C (Kd.int .i64) w A0_1 l0_1.length l0_1) (hc0_1 : l0_1.length ≤ c0_1) (hr1_1 : Kd.C (Kd.int .i64) w A1_1 l1_1.length l1_1) (hc1_1 : l1_1.length ≤ c1_1) (h : laws_nLadder.f k a0_0 l0_1 a1_0 l1_1 = some r) :
 Calls Tryz.prog 18 #[.agg #[.int .i64 a0_0, .slice A0_1 l0_1.length c0_1], .agg #[.int .i64 a1_0, .slice A1_1 l1_1.length c1_1]] w fun e w' => e = .returned (.bool r) ∧ Below w.heap.size w w' := by
 have hu26 := Tryz.underlying26;have HR0_1 := a_ hr0_1;have HC0_1 := a_ hc0_1;clear hr0_1 hc0_1;have HR1_1 := a_ hr1_1;have HC1_1 := a_ hc1_1;clear hr1_1 hc1_1;have HB := a_ (Below.refl w.heap.size w);have H := h;unfold laws_nLadder.f at H;clear h;rcases ib_ H with ⟨c3, H⟩ | ⟨c3, H⟩
 ·obtain ⟨c3b0, c3b1⟩ := qf_ c3;obtain rfl := s1_ H;go_enter Tryz.func18, Tryz.ntmps18;go_wp2_with (first | ((with_reducible refine gd_ 2 ?_);refine by_ #[.int .i64 a0_0, .slice A0_1 l0_1.length c0_1] 26 HB ?_;intro gb422 w10 BK422 GW422 HB) | ((with_reducible refine gd_ 3 ?_);refine bz_ #[.int .i64 a1_0, .slice A1_1 l1_1.length c1_1] 26 HB ?_;intro gb423 w11 BK423 GW423 HB hg hb;obtain ⟨NB422_423, NB423_422, BK422⟩ := nb_ BK422 hg hb;clear hg hb; have hnb12 := NB422_423.out; have hnc12 := NB423_422.out; obtain ⟨hcz13_0, hcz13_1, hfz13_0, hfz13_1⟩ := cf2_ BK422; obtain ⟨hcz14_0, hcz14_1, hfz14_0, hfz14_1⟩ := cf2_ BK423));go_ret;exact ⟨re_, Bl_ HB⟩
 obtain ⟨c3b0, c3b1⟩ := qt_ c3;clear c3;obtain ⟨t424, A4, H⟩ := ob_ H;(try dsimp only at H);obtain rfl := s1_ H;go_enter Tryz.func18, Tryz.ntmps18;go_wp2_with (first | ((with_reducible refine gd_ 2 ?_);refine by_ #[.int .i64 a0_0, .slice A0_1 l0_1.length c0_1] 26 HB ?_;intro gb422 w5 BK422 GW422 HB) | ((with_reducible refine gd_ 3 ?_);refine bz_ #[.int .i64 a1_0, .slice A1_1 l1_1.length c1_1] 26 HB ?_;intro gb423 w6 BK423 GW423 HB hg hb;obtain ⟨NB422_423, NB423_422, BK422⟩ := nb_ BK422 hg hb;clear hg hb; have hnb7 := NB422_423.out; have hnc7 := NB423_422.out; obtain ⟨hcz8_0, hcz8_1, hfz8_0, hfz8_1⟩ := cf2_ BK422; obtain ⟨hcz9_0, hcz9_1, hfz9_0, hfz9_1⟩ := cf2_ BK423) | (go_at_call 17; (with_reducible refine (laws_nSame.calls k _ _ l0_1 _ _ l1_1 t424 _ ?side1 ?side2 ?side3 ?side4 A4.out).mono ?_); (case side1 => exact Cl_ (Kd.C_below HR0_1.out HB.out)); (case side2 => exact HC0_1.out); (case side3 => exact Cl_ (Kd.C_below HR1_1.out HB.out)); (case side4 => exact HC1_1.out); rintro e w' ⟨rfl, ⟨nd, rfl⟩⟩));go_ret;exact ⟨re_, Bl_ HB⟩

end Go.Proofs.YtoomhlpanjebnaaGreat.B
