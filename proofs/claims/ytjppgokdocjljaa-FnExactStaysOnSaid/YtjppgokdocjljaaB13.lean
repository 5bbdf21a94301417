/- The walks of functions of the given program and of its reference: each call of the machine returns what the plain Lean function of the same name says. Conditions: those in each statement. (Written by this session's program over the kit's print.) -/
import Derived.Test.YtjppgokdocjljaaB0
import Derived.Test.YtjppgokdocjljaaB3
namespace Go.Proofs.Ytjppgokdocjljaa.B
open Go.RowKit Go.Proofs.YtjppgokdocjljaaW.PrintWords Go.Proofs.YtjppgokdocjljaaW.PrintLast Go.Proofs.YtjppgokdocjljaaW.PrintMore
attribute [local go_sem] max2_int min2_int max_two min_two max_three min_three max_four min_four   -- for this text's walks alone
set_option linter.unusedVariables false
set_option linter.unusedSimpArgs false

/-! ### impl_startsThat: function 57 -/
/-- the starts whose ways the function value takes -/
def selF (k : Nat) (a : Int) (l : List Int) (p : List Int → Option Bool) : Nat → Option (List Int)
  | 0 => some []
  | j + 1 => (selF k a l p j).bind fun s => (impl_way.f k a l (j : Int)).bind fun x => (p x).bind fun b => some (if b = true then s ++ [(j : Int)] else s)
theorem selF_at {k : Nat} {a : Int} {l : List Int} {p : List Int → Option Bool} (n : Nat) : ∀ r, selF k a l p n = some r → ∀ j, j < n → ∃ s x b, selF k a l p j = some s ∧ impl_way.f k a l (j : Int) = some x ∧ p x = some b ∧ selF k a l p (j + 1) = some (if b = true then s ++ [(j : Int)] else s) := by
  induction n with
  | zero => intro r _ j hj; omega
  | succ n ih =>
    intro r h j hj
    have h0 := h
    rw [selF] at h
    obtain ⟨s, hs, h⟩ := Option.bind_eq_some_iff.mp h
    obtain ⟨x, hx, h⟩ := Option.bind_eq_some_iff.mp h
    obtain ⟨b, hb, h⟩ := Option.bind_eq_some_iff.mp h
    by_cases c : j < n
    · exact ih s hs j c
    · obtain rfl : j = n := by omega
      exact ⟨s, x, b, hs, hx, hb, by rw [h0, ← h]⟩
theorem selF_length {k : Nat} {a : Int} {l : List Int} {p : List Int → Option Bool} (n : Nat) : ∀ r, selF k a l p n = some r → r.length ≤ n := by
  induction n with
  | zero => intro r h; simp [selF] at h; subst h; simp
  | succ n ih =>
    intro r h
    rw [selF] at h
    obtain ⟨s, hs, h⟩ := Option.bind_eq_some_iff.mp h
    obtain ⟨x, hx, h⟩ := Option.bind_eq_some_iff.mp h
    obtain ⟨b, hb, h⟩ := Option.bind_eq_some_iff.mp h
    have := ih s hs
    injection h with h
    subst h
    split <;> simp <;> omega
theorem selF_mono {k : Nat} {a : Int} {l : List Int} {p q : List Int → Option Bool} (hpq : ∀ x, LeO (p x) (q x)) (n : Nat) : LeO (selF k a l p n) (selF (k + 1) a l q n) := by
  induction n with
  | zero => exact LeO.refl _
  | succ n ih => exact LeO.bind ih fun _ => LeO.bind (impl_way.mono _ _ _ _) fun _ => LeO.bind (hpq _) fun _ => LeO.refl _
set_option maxHeartbeats 4000000 in
set_option maxRecDepth 100000 in
theorem startsThat_calls (k n : Nat) (hn : n ≤ 1000) (p : List Int → Option Bool) (g : Nat) (lb : Array Value) (eg : ∀ args w, (callFunc g args).run Try.prog w = .ok (.enter g args) w) (A0 : Option Addr) (c0 : Nat) (l0 : List Int) (r : List Int) (w : World)
    (hr0 : Kd.C (Kd.int .i64) w A0 l0.length l0) (hc0 : l0.length ≤ c0) (h : selF k (n : Int) l0 p n = some r)
    (hp : ∀ W A c (x : List Int) b, Kd.C (Kd.int .i64) W A x.length x → x.length ≤ c → Below w.heap.size w W → p x = some b → Calls Try.prog g (#[.slice A x.length c] ++ lb) W fun e w' => e = .returned (.bool b) ∧ Drawn0 W w') :
    Calls Try.prog 57 #[.agg #[.int .i64 (n : Int), .slice A0 l0.length c0], .func (.func g) #[] lb] w fun e w' => ∃ v0_ : Value, e = .returned v0_ ∧ Kd.R (Kd.int .i64) 3 w' w.heap.size (fun _ => True) v0_ r ∧ Below w.heap.size w w' := by
  have hu28 := Try.underlying28
  have HR := Aside0.mk hr0
  have HC := Aside0.mk hc0
  have HP := Aside0.mk hp
  have HS := Aside0.mk h
  have HA := Aside0.mk (selF_at n r h)
  have HN := Lib.hid hn
  have HB := Aside0.mk (Below.refl w.heap.size w)
  clear hr0 hc0 hp h hn
  go_enter Try.func57, Try.ntmps57
  go_wp2_with (first | ((with_reducible refine gate_dst (N := 2) rfl ?_); refine box_event ?hg (N := 2) ?hd (cs := #[.int .i64 (n : Int), .slice A0 l0.length c0]) (t := 28) ?hr ?_; (case hd => rfl); (case hg => rfl); (case hr => first | (go_simp; done) | (go_simp; rfl)); intro gb hg w4 hbox hb; have n0_ := Aside0.mk (below_step HB.out hb); have BK := Aside0.mk hbox; have GE := Aside0.mk ((by rw [hg]; exact Nat.le_refl _) : w.heap.size ≤ gb); clear HB; have HB := n0_; clear n0_; clear hb hbox hg; have hcz5_0 : w4.cell? ⟨gb, 0, none⟩ = some (.int .i64 (n : Int)) := (blk_cell BK.out 0).trans rfl; have hcz5_1 : w4.cell? ⟨gb, 1, none⟩ = some (.slice A0 l0.length c0) := (blk_cell BK.out 1).trans rfl; have hfz5_0 := blk_frozen BK.out 0; have hfz5_1 := blk_frozen BK.out 1) | ((with_reducible refine gate_dst (N := 7) rfl ?_); refine Kd.R_lit (Kd.int .i64) _ 3 ?hg (N := 7) ?hd (xs := ([] : List Int)) (inner := []) (ok := fun _ => True) (okp := fun _ => True) ?hr ?hp (fun _ hk => hk) trivial (Below.refl _ _) (Nat.le_refl _) (by simp) ?_; (case hd => rfl); (case hg => rfl); (case hr => first | (go_simp; done) | (go_simp; rfl)); (case hp => exact (Reps.none _ _)); intro v237 w7 ho8 hb hg_ hnew_; clear hg_ hnew_; have HO := Aside0.mk (Kd.R_lower ho8 (below_size HB.out)); have n1_ := Aside0.mk (blk_below (g := gb) (o := .cells #[.int .i64 (n : Int), .slice A0 l0.length c0] 28 (0, 0)) BK.out hb); have n2_ := Aside0.mk (below_step HB.out hb); clear BK; clear HB; have BK := n1_; have HB := n2_; clear n1_ n2_; clear hb ho8; have hcz9_0 : w7.cell? ⟨gb, 0, none⟩ = some (.int .i64 (n : Int)) := (blk_cell BK.out 0).trans rfl; have hcz9_1 : w7.cell? ⟨gb, 1, none⟩ = some (.slice A0 l0.length c0) := (blk_cell BK.out 1).trans rfl; have hfz9_0 := blk_frozen BK.out 0; have hfz9_1 := blk_frozen BK.out 1))
  go_loopg [5, 10] n (fun gg v5 v10 wr => ∃ (j : Nat) (s : List Int), j ≤ n ∧ n - j ≤ gg ∧ v10 = .int .i64 (j : Int) ∧ Aside0 (selF k (n : Int) l0 p j = some s) ∧ Aside0 (Kd.R (Kd.int .i64) 3 wr w.heap.size (fun _ => True) v5 s) ∧ Aside0 (wr.heap[gb]? = some (.cells #[.int .i64 (n : Int), .slice A0 l0.length c0] 28 (0, 0))) ∧ Aside0 (Below w.heap.size w wr))
  case atStart => exact ⟨0, [], Nat.zero_le _, by omega, rfl, ⟨rfl⟩, ⟨HO.out⟩, ⟨BK.out⟩, ⟨HB.out⟩⟩
  case round =>
    try clear hcz5_0
    try clear hcz5_1
    try clear hcz9_0
    try clear hcz9_1
    try clear hfz5_0
    try clear hfz5_1
    try clear hfz9_0
    try clear hfz9_1
    clear BK HB HO
    obtain ⟨j, s, hj, hgg, rfl, HF, HO, BK, HB⟩ := hrel
    have hcz14_0 : wr.cell? ⟨gb, 0, none⟩ = some (.int .i64 (n : Int)) := (blk_cell BK.out 0).trans rfl
    have hcz14_1 : wr.cell? ⟨gb, 1, none⟩ = some (.slice A0 l0.length c0) := (blk_cell BK.out 1).trans rfl
    have hfz14_0 := blk_frozen BK.out 0
    have hfz14_1 := blk_frozen BK.out 1
    by_cases hlt : j < n
    · have c1 : decide ((j : Int) < (n : Int)) = true := decide_eq_true (by omega)
      obtain ⟨s', x, b, h1, h2, h3, h4⟩ := HA.out j hlt
      rw [HF.out] at h1
      injection h1 with h1
      subst h1
      have hlen := selF_length j s HF.out
      have HW := Aside0.mk h2
      have HX := Aside0.mk h3
      have HF4 := Aside0.mk h4
      have HLT := Lib.hid hlt
      have HL := Lib.hid hlen
      have HW1 := Lib.hid (show wrap64 ((j : Int) + 1) = ((j + 1 : Nat) : Int) by have := HN.out; unfold wrap64; omega)
      clear h2 h3 h4 hlt hlen
      cases hb0 : b with
      | true =>
        subst hb0
        go_wp2_with (first | ((with_reducible refine gate_callee (f := 52) rfl ?_); refine goesL_ (some 16) rfl rfl Try.func52 (by kernel_rfl) rfl #[.agg #[.int .i64 (n : Int), .slice A0 l0.length c0], .int .i64 (j : Int)] rfl (by (try simp only [List.map_toArray, List.map_cons, List.map_nil]); first | done | rfl) ?_; (with_reducible refine (impl_way.calls k (n : Int) _ _ l0 (j : Int) x _ ?side1 ?side2 HW.out).mono ?_); (case side1 => exact (Kd.C_below HR.out HB.out)); (case side2 => exact HC.out); rintro e w15 ⟨v240, rfl, ho0, hb⟩; refine ⟨_, rfl, ?_⟩; have n0_ := Aside0.mk (Kd.R_elder' HO.out (Kd.R_base ho0) hb); have n1_ := Aside0.mk (Kd.R_lower (Kd.R_new' ho0 (Kd.R_lt HO.out)) (below_size HB.out)); have n2_ := Aside0.mk (blk_below (g := gb) (o := .cells #[.int .i64 (n : Int), .slice A0 l0.length c0] 28 (0, 0)) BK.out hb); have n3_ := Aside0.mk (below_step HB.out hb); clear HO; clear BK; clear HB; have HO := n0_; have HO2 := n1_; have BK := n2_; have HB := n3_; clear n0_ n1_ n2_ n3_; (try clear hb); (try clear ho0); obtain ⟨Ao16, co16, eo16⟩ := Kd.R_slice HO2.out; subst eo16) | (go_at_fn g; refine (HP.out _ Ao16 co16 x true ?fs1 ?fs2 ?fs3 HX.out).mono ?_; (case fs1 => exact (Kd.R_reads' HO2.out).2.2); (case fs2 => exact (Kd.R_reads' HO2.out).2.1); (case fs3 => exact HB.out); rintro e w' ⟨rfl, ⟨q', rfl⟩⟩; have n0_ := Aside0.mk (Kd.R_drewN HO.out q'); have n2_ := Aside0.mk (blk_drewN BK.out q'); have n3_ := Aside0.mk (pw_below_drewN HB.out q'); clear HO; clear BK; clear HB; clear HO2; have HO := n0_; have BK := n2_; have HB := n3_; clear n0_ n2_ n3_) | ((with_reducible refine gate_builtin (b := .append) (xs := #[.tmp 18, .tmp 20]) rfl ?_); at_builtin; refine Kd.R_append (Kd.int .i64) (w0 := w) w.heap.size rfl (.tmp 18) (.tmp 20) 22 3 (.int .i64 0) 8 rfl Try.underlying22 info3 rfl (by decide) (by omega) _ s (j : Int) [.int .i64 (j : Int)] (fun _ => True) (fun _ => False) rfl rfl ?aP (fun _ hk => hk.elim) ?aF ?aO ?aB ?aS ?aL ?_; (case aP => exact rfl); (case aB => exact (by repeat (first | (with_reducible first | exact HB.out | apply below_alloc | apply pw_below_drewN | apply below_drew1) | exact HB.out))); (case aF => exact (fun k_ hk => trivial)); (case aO => exact (by (with_reducible repeat (first | apply Kd.R_alloc | apply Kd.R_drewN | apply Kd.R_drew)); exact Kd.R_mono HO.out (fun _ _ => trivial))); (case aS => exact (below_size (by repeat (first | (with_reducible first | exact HB.out | apply below_alloc | apply pw_below_drewN | apply below_drew1) | exact HB.out)))); (case aL => exact (by have := HL.out; have := HN.out; have := HLT.out; omega)); intro v244 w17 ho hb hg hat; have n0_ := Aside0.mk (blk_grown (g := gb) (o := .cells #[.int .i64 (n : Int), .slice A0 l0.length c0] 28 (0, 0)) (by (with_reducible repeat (first | refine blk_drewN ?_ _ | refine blk_drew ?_ | refine blk_alloc ?_ _)); exact BK.out) hg (Kd.R_ne HO.out BK.out (by decide))); have n2_ := Aside0.mk (hb); have n3_ := Aside0.mk (ho); clear BK; clear HB; clear HO; have BK := n0_; have HB := n2_; have HO := n3_; clear n0_ n2_ n3_; clear ho hb hg hat))
        go_roundg (n - (j + 1))
        case measure => have := HLT.out; omega
        case rel => exact ⟨j + 1, s ++ [(j : Int)], by have := HLT.out; omega, by omega, by rw [← HW1.out], HF4, ⟨Kd.R_mono HO.out (fun _ _ => trivial)⟩, BK, HB⟩
      | false =>
        subst hb0
        go_wp2_with (first | ((with_reducible refine gate_callee (f := 52) rfl ?_); refine goesL_ (some 16) rfl rfl Try.func52 (by kernel_rfl) rfl #[.agg #[.int .i64 (n : Int), .slice A0 l0.length c0], .int .i64 (j : Int)] rfl (by (try simp only [List.map_toArray, List.map_cons, List.map_nil]); first | done | rfl) ?_; (with_reducible refine (impl_way.calls k (n : Int) _ _ l0 (j : Int) x _ ?side1 ?side2 HW.out).mono ?_); (case side1 => exact (Kd.C_below HR.out HB.out)); (case side2 => exact HC.out); rintro e w15 ⟨v240, rfl, ho0, hb⟩; refine ⟨_, rfl, ?_⟩; have n0_ := Aside0.mk (Kd.R_elder' HO.out (Kd.R_base ho0) hb); have n1_ := Aside0.mk (Kd.R_lower (Kd.R_new' ho0 (Kd.R_lt HO.out)) (below_size HB.out)); have n2_ := Aside0.mk (blk_below (g := gb) (o := .cells #[.int .i64 (n : Int), .slice A0 l0.length c0] 28 (0, 0)) BK.out hb); have n3_ := Aside0.mk (below_step HB.out hb); clear HO; clear BK; clear HB; have HO := n0_; have HO2 := n1_; have BK := n2_; have HB := n3_; clear n0_ n1_ n2_ n3_; (try clear hb); (try clear ho0); obtain ⟨Ao16, co16, eo16⟩ := Kd.R_slice HO2.out; subst eo16) | (go_at_fn g; refine (HP.out _ Ao16 co16 x false ?fs1 ?fs2 ?fs3 HX.out).mono ?_; (case fs1 => exact (Kd.R_reads' HO2.out).2.2); (case fs2 => exact (Kd.R_reads' HO2.out).2.1); (case fs3 => exact HB.out); rintro e w' ⟨rfl, ⟨q', rfl⟩⟩; have n0_ := Aside0.mk (Kd.R_drewN HO.out q'); have n2_ := Aside0.mk (blk_drewN BK.out q'); have n3_ := Aside0.mk (pw_below_drewN HB.out q'); clear HO; clear BK; clear HB; clear HO2; have HO := n0_; have BK := n2_; have HB := n3_; clear n0_ n2_ n3_))
        go_roundg (n - (j + 1))
        case measure => have := HLT.out; omega
        case rel => exact ⟨j + 1, s, by have := HLT.out; omega, by omega, by rw [← HW1.out], HF4, ⟨Kd.R_mono HO.out (fun _ _ => trivial)⟩, BK, HB⟩
    · have c1 : decide ((j : Int) < (n : Int)) = false := decide_eq_false (by omega)
      obtain rfl : j = n := by omega
      have e : s = r := by have h1 := HF.out; rw [HS.out] at h1; injection h1 with h1; exact h1.symm
      subst e
      clear hlt hj
      go_wp2
      go_ret
      exact ⟨_, rfl, HO.out, HB.out⟩


end Go.Proofs.Ytjppgokdocjljaa.B
