/- The walks of functions of the given program and of its reference: each call of the machine returns what the plain Lean function of the same name says. Conditions: those in each statement. (Written by this session's program over the kit's print.) -/
import Derived.Test.YtnmhokkkjpjmeaaB0
import Derived.Test.YtnmhokkkjpjmeaaB1
import Derived.Test.YtnmhokkkjpjmeaaB5
import Derived.Test.YtnmhokkkjpjmeaaB7
namespace Go.Proofs.Ytnmhokkkjpjmeaa.B
open Go.RowKit Go.Proofs.YtnmhokkkjpjmeaaW.PrintWords Go.Proofs.YtnmhokkkjpjmeaaW.PrintLast Go.Proofs.YtnmhokkkjpjmeaaW.PrintMore
attribute [local go_sem] max2_int min2_int max_two min_two max_three min_three max_four min_four   -- for this text's walks alone
set_option linter.unusedVariables false
set_option linter.unusedSimpArgs false

/-! ### spec_GoodTakes: function 28 -/
def ggGo (hs : List Bool) (ls : List Int) (M : Nat) : Nat → Nat → List Int
  | 0, _ => []
  | d + 1, i => if hs.getD (M - 2 ^ i) false = true ∨ ls.getD (M - 2 ^ i) 0 < 0 then (i : Int) :: ggGo hs ls M d (i + 1) else ggGo hs ls M d (i + 1)
def spec_GoodTakes.f (k : Nat) (a : Int) (l : List Int) : Option (List Int × Bool) := (spec_gaTaking.f k a l).bind fun t => if t = true then (gaNewF k a l).bind fun p => some (ggGo p.1 p.2 (2 ^ l.length - 1) l.length 0, true) else some ([], false)
theorem spec_GoodTakes.mono : ∀ a0 a1 k, LeO (spec_GoodTakes.f k a0 a1) (spec_GoodTakes.f (k + 1) a0 a1) := by
  intro a0 a1 k
  unfold spec_GoodTakes.f
  exact LeO.bind (spec_gaTaking.mono _ _ _) fun _ => LeO.ite (LeO.bind (gaNewF_mono k _ _) fun _ => LeO.refl _) (LeO.refl _)
set_option maxHeartbeats 4000000 in
set_option maxRecDepth 100000 in
theorem spec_GoodTakes.calls (k : Nat) (a : Int) (A0 : Option Addr) (c0 : Nat) (l : List Int) (r1 : List Int) (r2 : Bool) (w : World) (hr : Kd.C (Kd.int .i64) w A0 l.length l) (hc : l.length ≤ c0) (h : spec_GoodTakes.f k a l = some (r1, r2)) :
    Calls Try.prog 28 #[.agg #[.int .i64 a, .slice A0 l.length c0]] w fun e w' => ∃ v0_ : Value, e = .returned (.tuple #[v0_, .bool r2]) ∧ Kd.R (Kd.int .i64) 3 w' w.heap.size (fun _ => True) v0_ r1 ∧ Below w.heap.size w w' := by
  have hu28 := Try.underlying28
  have hu58 := Try.underlying58
  have HR := Aside0.mk hr
  have HC := Aside0.mk hc
  have HB := Aside0.mk (Below.refl w.heap.size w)
  replace h := Option.bind_eq_some_iff.mp h
  obtain ⟨t, ht, h⟩ := h
  have HT := Aside0.mk ht
  clear hr hc ht
  cases t with
  | false =>
    rw [if_neg (by simp)] at h
    simp only [Option.some.injEq, Prod.mk.injEq] at h
    obtain ⟨rfl, rfl⟩ := h
    go_enter Try.func28, Try.ntmps28
    go_wp2_with (first | ((with_reducible refine gate_dst (N := 1) rfl ?_); refine box_event ?hg (N := 1) ?hd (cs := #[.int .i64 a, .slice A0 l.length c0]) (t := 28) ?hr ?_; (case hd => rfl); (case hg => rfl); (case hr => first | (go_simp; done) | (go_simp; rfl)); intro gb hg w1 hbox hb; have n0_ := Aside0.mk (below_step HB.out hb); clear HB; have HB := n0_; clear n0_; have BKL := Aside0.mk hbox; clear hbox hb hg; have hcz0 : w1.cell? ⟨gb, 0, none⟩ = some (.int .i64 a) := (blk_cell BKL.out 0).trans rfl; have hcz1 : w1.cell? ⟨gb, 1, none⟩ = some (.slice A0 l.length c0) := (blk_cell BKL.out 1).trans rfl) | ((with_reducible refine (spec_gaTaking.calls k a A0 c0 l false _ (Kd.C_below HR.out HB.out) HC.out HT.out).mono ?_); rintro e w2 ⟨rfl, hb⟩; have n0_ := Aside0.mk (below_step HB.out hb); have n1_ := Aside0.mk (blk_below BKL.out hb); clear HB BKL hb; have HB := n0_; have BKL := n1_; clear n0_ n1_; have hcy0 : w2.cell? ⟨gb, 0, none⟩ = some (.int .i64 a) := (blk_cell BKL.out 0).trans rfl; have hcy1 : w2.cell? ⟨gb, 1, none⟩ = some (.slice A0 l.length c0) := (blk_cell BKL.out 1).trans rfl))
    go_ret2
    exact ⟨_, rfl, Kd.R_nil _ _ _ _ _, HB.out⟩
  | true =>
    rw [if_pos rfl] at h
    replace h := Option.bind_eq_some_iff.mp h
    obtain ⟨⟨hs, ls⟩, hnew, h⟩ := h
    have hn : l.length ≤ 12 := by
      unfold gaNewF at hnew
      by_cases hn : l.length ≤ 12
      · exact hn
      · rw [if_neg hn] at hnew; cases hnew
    have hN1 : 1 ≤ 2 ^ l.length := Nat.one_le_two_pow
    have hN2 : 2 ^ l.length ≤ 4096 := by have h1 := Nat.pow_le_pow_right (n := 2) (by decide) hn; omega
    have HNEW := Aside0.mk hnew
    have HN12 := Lib.hid hn
    obtain ⟨N, hN⟩ : ∃ N, N = 2 ^ l.length := ⟨_, rfl⟩
    rw [← hN] at hN1 hN2
    have HN1 := Lib.hid hN1
    have HN2 := Lib.hid hN2
    have HNN := Lib.hid hN
    obtain ⟨M, hM⟩ : ∃ M, M = N - 1 := ⟨_, rfl⟩
    have e1 : wrap64 ((N : Int) - 1) = (M : Int) := by unfold wrap64; omega
    have q1 : (M : Int) < (N : Int) := by omega
    have p1 : 0 ≤ (M : Int) := by omega
    have HMN := Lib.hid (show M < N by omega)
    replace p1 := eq_true p1
    replace q1 := eq_true q1
    simp only [Option.some.injEq, Prod.mk.injEq] at h
    obtain ⟨rfl, rfl⟩ := h
    rw [← hN, ← hM]
    obtain ⟨rr, hrr⟩ : ∃ rr, rr = ggGo hs ls M l.length 0 := ⟨_, rfl⟩
    rw [← hrr]
    have HRR := Lib.hid hrr
    have HMM := Lib.hid (show M = 2 ^ l.length - 1 by omega)
    clear hN1 hN2 hn hnew hN hM hrr
    go_enter Try.func28, Try.ntmps28
    go_wp2_with (first | ((with_reducible refine gate_dst (N := 1) rfl ?_); refine box_event ?hg (N := 1) ?hd (cs := #[.int .i64 a, .slice A0 l.length c0]) (t := 28) ?hr ?_; (case hd => rfl); (case hg => rfl); (case hr => first | (go_simp; done) | (go_simp; rfl)); intro gb hg w1 hbox hb; have n0_ := Aside0.mk (below_step HB.out hb); clear HB; have HB := n0_; clear n0_; have BKL := Aside0.mk hbox; clear hbox hb hg; have hcz0 : w1.cell? ⟨gb, 0, none⟩ = some (.int .i64 a) := (blk_cell BKL.out 0).trans rfl; have hcz1 : w1.cell? ⟨gb, 1, none⟩ = some (.slice A0 l.length c0) := (blk_cell BKL.out 1).trans rfl) | ((with_reducible refine (spec_gaTaking.calls k a A0 c0 l true _ (Kd.C_below HR.out HB.out) HC.out HT.out).mono ?_); rintro e w2 ⟨rfl, hb⟩; have n0_ := Aside0.mk (below_step HB.out hb); have n1_ := Aside0.mk (blk_below BKL.out hb); clear HB BKL hb; have HB := n0_; have BKL := n1_; clear n0_ n1_; have hcy0 : w2.cell? ⟨gb, 0, none⟩ = some (.int .i64 a) := (blk_cell BKL.out 0).trans rfl; have hcy1 : w2.cell? ⟨gb, 1, none⟩ = some (.slice A0 l.length c0) := (blk_cell BKL.out 1).trans rfl) | ((with_reducible refine (gaNew_calls k a A0 c0 l hs ls _ (Kd.C_below HR.out HB.out) HC.out HNEW.out).mono ?_); rw [← HNN.out]; rintro e w3 ⟨g, gh, gl, rfl, hga, hb⟩; have HG := Aside0.mk hga; have n0_ := Aside0.mk (below_step HB.out hb); have n1_ := Aside0.mk (blk_below BKL.out hb); clear HB BKL hga hb hcz0 hcz1 hcy0 hcy1; have HB := n0_; have BKL := n1_; clear n0_ n1_; have hcx1 : w3.cell? ⟨gb, 1, none⟩ = some (.slice A0 l.length c0) := (blk_cell BKL.out 1).trans rfl; have hcg3 : w3.cell? ⟨g, 3, none⟩ = some (.slice (some ⟨gl, 0, none⟩) N N) := (blk_cell HG.out.1 3).trans rfl; have hcg2 : w3.cell? ⟨g, 2, none⟩ = some (.slice (some ⟨gh, 0, none⟩) N N) := (blk_cell HG.out.1 2).trans rfl))
    clear hcx1 hcg3 hcg2 BKL
    go_loopg [5, 16] l.length (fun gg v5 v16 wr => ∃ (d i : Nat) (acc : List Int), d ≤ gg ∧ i + d = l.length ∧ v16 = .int .i64 (i : Int) ∧ Aside0 (acc ++ ggGo hs ls M d i = rr) ∧ Aside0 (acc.length ≤ i) ∧ Aside0 (GaB A0 c0 a l g gh gl N hs ls wr) ∧ Aside0 (Kd.R (Kd.int .i64) 3 wr w.heap.size (fun k_ => k_ ≠ g ∧ k_ ≠ gh ∧ k_ ≠ gl) v5 acc) ∧ Aside0 (Below w.heap.size w wr))
    case atStart => exact ⟨l.length, 0, [], Nat.le_refl _, Nat.zero_add _, rfl, ⟨HRR.out.symm⟩, ⟨Nat.le_refl _⟩, HG, ⟨Kd.R_nil _ _ _ _ _⟩, HB⟩
    case round =>
      clear HG HB
      obtain ⟨d, i, acc, hgg, hid, rfl, HAC, HAL, HG, HRO, HB⟩ := hrel
      have hac := HAC.out
      cases d with
      | zero =>
        have d1 : decide (i < l.length) = false := decide_eq_false (by omega)
        rw [ggGo, List.append_nil] at hac
        have HAA := Aside0.mk hac
        clear hgg hid hac HAC
        go_wp2
        go_ret2
        exact ⟨_, rfl, by rw [← HAA.out]; exact Kd.R_mono HRO.out (fun _ _ => trivial), HB.out⟩
      | succ d =>
        have d1 : decide (i < l.length) = true := decide_eq_true (by omega)
        have hil : i < l.length := by omega
        rw [ggGo] at hac
        have HI12 := Lib.hid (show i < 12 by have := HN12.out; omega)
        have HGG := Lib.hid hgg
        have HID := Lib.hid hid
        have HWJ := Lib.hid (show wrap64 ((i : Int) + 1) = ((i + 1 : Nat) : Int) by have := HI12.out; clear e1; unfold wrap64; omega)
        have hbz2 : ¬ M / 2 ^ i % 2 = 0 := by rw [HMM.out]; exact full_bit _ _ hil
        have ec := clrI_eq M i (Nat.lt_of_lt_of_le HMN.out HN2.out) HI12.out hbz2
        rw [← show min i 64 = i from Nat.min_eq_left (by have := HI12.out; clear ec e1; omega)] at ec
        rw [show M - 2 ^ min i 64 = M - 2 ^ i by rw [Nat.min_eq_left (by have := HI12.out; clear ec e1; omega)]] at ec
        obtain ⟨t, ht⟩ : ∃ t, t = M - 2 ^ i := ⟨_, rfl⟩
        rw [← ht] at ec hac
        have htN : t < N := by rw [ht]; exact Nat.lt_of_le_of_lt (Nat.sub_le _ _) HMN.out
        have HTN := Lib.hid htN
        have p2 : 0 ≤ ((t : Nat) : Int) := by clear ec e1; omega
        have q2 : ((t : Nat) : Int) < (N : Int) := by clear ec e1; omega
        replace p2 := eq_true p2
        replace q2 := eq_true q2
        obtain ⟨hv, hhv⟩ : ∃ hv, hv = hs.getD t false := ⟨_, rfl⟩
        obtain ⟨lv, hlv⟩ : ∃ lv, lv = ls.getD t 0 := ⟨_, rfl⟩
        rw [← hhv, ← hlv] at hac
        have HHV := Lib.hid hhv
        have HLV := Lib.hid hlv
        clear hgg hid hil hbz2 htN ht hhv hlv HAC
        go_wp2
        have HG2 := Aside0.mk HG.out.drew
        have HB2 := Aside0.mk (below_drew1 HB.out)
        have HRO2 := Aside0.mk (Kd.R_drew HRO.out)
        clear HG HB HRO
        refine start_ (n := 10) (S := fun w' => w'.cell? ⟨g, 3, none⟩ = some (.slice (some ⟨gl, 0, none⟩) N N)) (ds := []) #[false, false, false, false, false, false, false, false, false, false] (by kernel_rfl) rfl rfl ((blk_cell HG2.out.1 3).trans rfl) (fun hHeld => ?_)
        generalize wr.drew = w5 at HG2 HB2 HRO2 hHeld ⊢
        refine pure_ (i := 0) (N := some 19) (v := ?_) (a' := ?_) #[true, false, false, false, false, false, false, false, false, false] rfl rfl (by kernel_rfl) (fun _ _ _ h => h) (Or.inl ⟨by rfl, ?_⟩) ?_ ?_
        rotate_left
        · intro w'
          go_simp
          with_reducible rfl
        rotate_left
        · simp only [Act.put, List.setIfInBounds_toArray, List.set_cons_zero, List.set_cons_succ, i64_w, i32_w]
          rfl
        refine pure_ (i := 1) (N := some 20) (v := ?_) (a' := ?_) #[true, true, false, false, false, false, false, false, false, false] rfl rfl (by kernel_rfl) (fun _ _ _ h => h) (Or.inl ⟨by rfl, ?_⟩) ?_ ?_
        rotate_left
        · intro w'
          go_simp
          with_reducible rfl
        rotate_left
        · simp only [Act.put, List.setIfInBounds_toArray, List.set_cons_zero, List.set_cons_succ, i64_w, i32_w]
          rfl
        refine pure_ (i := 2) (N := some 21) (v := ?_) (a' := ?_) #[true, true, true, false, false, false, false, false, false, false] rfl rfl (by kernel_rfl) (fun _ _ _ h => h) (Or.inl ⟨by rfl, ?_⟩) ?_ ?_
        rotate_left
        · intro w'
          go_simp
          with_reducible rfl
        rotate_left
        · simp only [Act.put, List.setIfInBounds_toArray, List.set_cons_zero, List.set_cons_succ, i64_w, i32_w]
          rfl
        refine take_ (i := 3) (N := some 22) (v := ?_) (a' := ?_) #[true, true, true, true, false, false, false, false, false, false] rfl rfl (by kernel_rfl) (fun _ _ _ h => h) (Or.inl ⟨by rfl, ?_⟩) hHeld ?_ ?_
        rotate_left
        · rintro w' s0
          go_simp
          with_reducible rfl
        rotate_left
        · simp only [Act.put, List.setIfInBounds_toArray, List.set_cons_zero, List.set_cons_succ, i64_w, i32_w]
          rfl
        refine pure_ (i := 4) (N := some 23) (v := ?_) (a' := ?_) #[true, true, true, true, true, false, false, false, false, false] rfl rfl (by kernel_rfl) (fun _ _ _ h => h) (Or.inl ⟨by rfl, ?_⟩) ?_ ?_
        rotate_left
        · intro w'
          go_simp
          with_reducible rfl
        rotate_left
        · simp only [Act.put, List.setIfInBounds_toArray, List.set_cons_zero, List.set_cons_succ, i64_w, i32_w]
          rfl
        refine pure_ (i := 5) (N := some 24) (v := ?_) (a' := ?_) #[true, true, true, true, true, true, false, false, false, false] rfl rfl (by kernel_rfl) (fun _ _ _ h => h) (Or.inl ⟨by rfl, ?_⟩) ?_ ?_
        rotate_left
        · intro w'
          go_simp
          with_reducible rfl
        rotate_left
        · simp only [Act.put, List.setIfInBounds_toArray, List.set_cons_zero, List.set_cons_succ, i64_w, i32_w]
          rfl
        refine pure_ (i := 6) (N := some 25) (v := ?_) (a' := ?_) #[true, true, true, true, true, true, true, false, false, false] rfl rfl (by kernel_rfl) (fun _ _ _ h => h) (Or.inl ⟨by rfl, ?_⟩) ?_ ?_
        rotate_left
        · intro w'
          go_simp
          with_reducible rfl
        rotate_left
        · simp only [Act.put, List.setIfInBounds_toArray, List.set_cons_zero, List.set_cons_succ, i64_w, i32_w]
          rfl
        refine pure_ (i := 7) (N := some 26) (v := ?_) (a' := ?_) #[true, true, true, true, true, true, true, true, false, false] rfl rfl (by kernel_rfl) (fun _ _ _ h => h) (Or.inl ⟨by rfl, ?_⟩) ?_ ?_
        rotate_left
        · intro w'
          go_simp
          with_reducible rfl
        rotate_left
        · simp only [Act.put, List.setIfInBounds_toArray, List.set_cons_zero, List.set_cons_succ, i64_w, i32_w]
          rfl
        refine pure_ (i := 8) (N := some 27) (v := ?_) (a' := ?_) #[true, true, true, true, true, true, true, true, true, false] rfl rfl (by kernel_rfl) (fun _ _ _ h => h) (Or.inl ⟨by rfl, ?_⟩) ?_ ?_
        rotate_left
        · intro w'
          go_simp
          with_reducible rfl
        rotate_left
        · simp only [Act.put, List.setIfInBounds_toArray, List.set_cons_zero, List.set_cons_succ, i64_w, i32_w]
          rfl
        refine pure_ (i := 9) (N := some 7) (v := ?_) (a' := ?_) #[true, true, true, true, true, true, true, true, true, true] rfl rfl (by kernel_rfl) (fun _ _ _ h => h) (Or.inl ⟨by rfl, ?_⟩) ?_ ?_
        rotate_left
        · intro w'
          go_simp
          with_reducible rfl
        rotate_left
        · simp only [Act.put, List.setIfInBounds_toArray, List.set_cons_zero, List.set_cons_succ, i64_w, i32_w]
          rfl
        refine done_ (by kernel_rfl) ?_
        clear hHeld
        have HG := HG2
        have HB := HB2
        have HRO := HRO2
        clear HG2 HB2 HRO2
        have hcg3 : w5.cell? ⟨g, 3, none⟩ = some (.slice (some ⟨gl, 0, none⟩) N N) := (blk_cell HG.out.1 3).trans rfl
        have hcg2 : w5.cell? ⟨g, 2, none⟩ = some (.slice (some ⟨gh, 0, none⟩) N N) := (blk_cell HG.out.1 2).trans rfl
        have hch := HG.out.atH t HTN.out
        have hcl := HG.out.atL t HTN.out
        rw [← HHV.out] at hch
        rw [← HLV.out] at hcl
        cases hv0 : hv with
        | true =>
          subst hv0
          rw [if_pos (Or.inl rfl)] at hac
          have HAC := Aside0.mk (show (acc ++ [(i : Int)]) ++ ggGo hs ls M d (i + 1) = rr by rw [← hac, List.append_assoc]; rfl)
          clear hac
          go_wp2_with (first | ((with_reducible refine gate_builtin (b := .append) (xs := #[.tmp 45, .tmp 47]) rfl ?_); at_builtin; refine Kd.R_append (Kd.int .i64) (w0 := w) w.heap.size rfl (.tmp 45) (.tmp 47) 22 3 (.int .i64 0) 8 rfl Try.underlying22 info3 rfl (by decide) (by omega) u5 acc (i : Int) [.int .i64 (i : Int)] (fun k_ => k_ ≠ g ∧ k_ ≠ gh ∧ k_ ≠ gl) (fun _ => False) rfl rfl ?aP (fun _ hk => hk.elim) ?aF ?aO ?aB ?aS ?aL ?_; (case aP => exact rfl); (case aB => exact HB.out); (case aF => exact (fun k_ hk => ⟨Nat.ne_of_gt (Nat.lt_of_lt_of_le (blk_lt HG.out.1) hk), Nat.ne_of_gt (Nat.lt_of_lt_of_le (blk_lt HG.out.2.1) hk), Nat.ne_of_gt (Nat.lt_of_lt_of_le (blk_lt HG.out.2.2.1) hk)⟩)); (case aO => exact HRO.out); (case aS => exact HB.out.size); (case aL => exact (by have := HN12.out; have := HAL.out; have := HI12.out; omega)); intro v2 w2 ho hb hg hat; have n0_ := Aside0.mk (HG.out.grown hg (fun k_ e_ => HRO.out.1 k_ e_)); have n1_ := Aside0.mk ho; have n2_ := Aside0.mk hb; clear HG HRO HB ho hb hg hat; have HG := n0_; have HRO := n1_; have HB := n2_; clear n0_ n1_ n2_))
          go_roundg d
          case measure => have := HGG.out; omega
          case rel => exact ⟨d, i + 1, acc ++ [(i : Int)], Nat.le_refl _, by have := HID.out; omega, by rw [← HWJ.out], HAC, ⟨by rw [List.length_append]; have := HAL.out; simp; omega⟩, HG, HRO, HB⟩
        | false =>
          subst hv0
          by_cases hneg : lv < 0
          · have u1 : decide (lv < 0) = true := decide_eq_true hneg
            rw [if_pos (Or.inr hneg)] at hac
            have HAC := Aside0.mk (show (acc ++ [(i : Int)]) ++ ggGo hs ls M d (i + 1) = rr by rw [← hac, List.append_assoc]; rfl)
            clear hac hneg
            go_wp2_with (first | ((with_reducible refine gate_builtin (b := .append) (xs := #[.tmp 45, .tmp 47]) rfl ?_); at_builtin; refine Kd.R_append (Kd.int .i64) (w0 := w) w.heap.size rfl (.tmp 45) (.tmp 47) 22 3 (.int .i64 0) 8 rfl Try.underlying22 info3 rfl (by decide) (by omega) u5 acc (i : Int) [.int .i64 (i : Int)] (fun k_ => k_ ≠ g ∧ k_ ≠ gh ∧ k_ ≠ gl) (fun _ => False) rfl rfl ?aP (fun _ hk => hk.elim) ?aF ?aO ?aB ?aS ?aL ?_; (case aP => exact rfl); (case aB => exact HB.out); (case aF => exact (fun k_ hk => ⟨Nat.ne_of_gt (Nat.lt_of_lt_of_le (blk_lt HG.out.1) hk), Nat.ne_of_gt (Nat.lt_of_lt_of_le (blk_lt HG.out.2.1) hk), Nat.ne_of_gt (Nat.lt_of_lt_of_le (blk_lt HG.out.2.2.1) hk)⟩)); (case aO => exact HRO.out); (case aS => exact HB.out.size); (case aL => exact (by have := HN12.out; have := HAL.out; have := HI12.out; omega)); intro v2 w2 ho hb hg hat; have n0_ := Aside0.mk (HG.out.grown hg (fun k_ e_ => HRO.out.1 k_ e_)); have n1_ := Aside0.mk ho; have n2_ := Aside0.mk hb; clear HG HRO HB ho hb hg hat; have HG := n0_; have HRO := n1_; have HB := n2_; clear n0_ n1_ n2_))
            go_roundg d
            case measure => have := HGG.out; omega
            case rel => exact ⟨d, i + 1, acc ++ [(i : Int)], Nat.le_refl _, by have := HID.out; omega, by rw [← HWJ.out], HAC, ⟨by rw [List.length_append]; have := HAL.out; simp; omega⟩, HG, HRO, HB⟩
          · have u1 : decide (lv < 0) = false := decide_eq_false hneg
            rw [if_neg (fun h => h.elim (fun h => by cases h) hneg)] at hac
            have HAC := Aside0.mk hac
            clear hac hneg
            go_wp2
            go_roundg d
            case measure => have := HGG.out; omega
            case rel => exact ⟨d, i + 1, acc, Nat.le_refl _, by have := HID.out; omega, by rw [← HWJ.out], HAC, ⟨by have := HAL.out; omega⟩, HG, HRO, HB⟩


/-! ### impl_GoodTakes: function 29 -/
def goodGo (tk : Nat → Option (Bool × Int × Int)) : Nat → Nat → Option (List Int)
  | 0, _ => some []
  | d + 1, i => (tk i).bind fun o => (goodGo tk d (i + 1)).bind fun r => some (if o.1 = true then (i : Int) :: r else r)
theorem goodGo_mono {tk tk' : Nat → Option (Bool × Int × Int)} (h : ∀ i, LeO (tk i) (tk' i)) : ∀ d i, LeO (goodGo tk d i) (goodGo tk' d i)
  | 0, _ => LeO.refl _
  | d + 1, i => LeO.bind (h i) fun _ => LeO.bind (goodGo_mono h d (i + 1)) fun _ => LeO.refl _
def impl_GoodTakes.f (k : Nat) (a0 : Int) (l0 : List Int) : Option (List Int × Bool) := (impl_isTaking.f k a0 l0).bind fun t => if t = true then (if l0.length ≤ 12 then (goodGo (takeX (bestF k a0 l0) k a0 l0 (2 ^ l0.length - 1)) l0.length 0).bind fun r => some (r, true) else none) else some ([], false)
theorem impl_GoodTakes.mono : ∀ a0 a1 k, LeO (impl_GoodTakes.f k a0 a1) (impl_GoodTakes.f (k + 1) a0 a1) := by
  intro a0 a1 k
  unfold impl_GoodTakes.f
  exact LeO.bind (impl_isTaking.mono _ _ _) fun _ => LeO.ite (LeO.ite (LeO.bind (goodGo_mono (takeX_mono (bestF_mono k a0 a1) k a0 a1 _) _ _) fun _ => LeO.refl _) (LeO.refl _)) (LeO.refl _)
theorem take_calls3 {w0 : World} {A0 : Option Addr} {c0 : Nat} {a : Int} {l : List Int} {g bm : Nat} (hsu : Setup w0 A0 c0 a l g bm) (k s t : Nat) (hs : s < 4096) (ht : t < 12) (hbit : ¬ s / 2 ^ t % 2 = 0) (x : Bool) (y z : Int) (ho : takeX (bestF k a l) k a l s t = some (x, y, z)) (w : World) (hg : Gm w0 A0 c0 a l g bm w) :
    Calls Try.prog 48 #[.pointer (some ⟨g, 0, none⟩), .int .u64 (s : Int), .int .i64 (t : Int)] w fun e w' => e = .returned (.agg #[.bool x, .int .i64 y, .int .i64 z]) ∧ Gm w0 A0 c0 a l g bm w' ∧ w.grownBy w' (some bm) :=
  take_calls hsu k (best_at hsu k) s t hs ht hbit k (x, y, z) ho w hg
set_option maxHeartbeats 4000000 in
set_option maxRecDepth 100000 in
theorem impl_GoodTakes.calls (k : Nat) (a0_0 : Int) (A0_1 : Option Addr) (c0_1 : Nat) (l0_1 : List Int) (r1 : List Int) (r2 : Bool) (w : World) (hr0_1 : Kd.C (Kd.int .i64) w A0_1 l0_1.length l0_1) (hc0_1 : l0_1.length ≤ c0_1) (h : impl_GoodTakes.f k a0_0 l0_1 = some (r1, r2)) :
    Calls Try.prog 29 #[.agg #[.int .i64 a0_0, .slice A0_1 l0_1.length c0_1]] w fun e w' => ∃ v0_ : Value, e = .returned (.tuple #[v0_, .bool r2]) ∧ Kd.R (Kd.int .i64) 3 w' w.heap.size (fun _ => True) v0_ r1 ∧ Below w.heap.size w w' := by
  have hu28 := Try.underlying28
  have hu60 := Try.underlying60
  have hfl : ∀ (W : World) (x : Bool) (y z : Int), (Instr.field 60 (.agg #[.bool x, .int .i64 y, .int .i64 z]) 0).run Try.prog W = .ok (.bool x) W := fun _ _ _ _ => by kernel_rfl
  have HR := Aside0.mk hr0_1
  have HC := Aside0.mk hc0_1
  have HB := Aside0.mk (Below.refl w.heap.size w)
  replace h := Option.bind_eq_some_iff.mp h
  obtain ⟨t, ht, h⟩ := h
  have HT := Aside0.mk ht
  clear hr0_1 hc0_1 ht
  cases t with
  | false =>
    rw [if_neg (by simp)] at h
    simp only [Option.some.injEq, Prod.mk.injEq] at h
    obtain ⟨rfl, rfl⟩ := h
    go_enter Try.func29, Try.ntmps29
    go_wp2_with (first | ((with_reducible refine gate_dst (N := 1) rfl ?_); refine box_event ?hg (N := 1) ?hd (cs := #[.int .i64 a0_0, .slice A0_1 l0_1.length c0_1]) (t := 28) ?hr ?_; (case hd => rfl); (case hg => rfl); (case hr => first | (go_simp; done) | (go_simp; rfl)); intro gl hg w1 hbox hb; have n0_ := Aside0.mk (below_step HB.out hb); clear HB; have HB := n0_; clear n0_; have BKL := Aside0.mk hbox; clear hbox hb hg; have hcz0 : w1.cell? ⟨gl, 0, none⟩ = some (.int .i64 a0_0) := (blk_cell BKL.out 0).trans rfl; have hcz1 : w1.cell? ⟨gl, 1, none⟩ = some (.slice A0_1 l0_1.length c0_1) := (blk_cell BKL.out 1).trans rfl; have hfz0 := blk_frozen BKL.out 0; have hfz1 := blk_frozen BKL.out 1) | ((with_reducible refine gate_callee (f := 37) rfl ?_); refine goesL_ (some 10) rfl rfl Try.func37 (by kernel_rfl) rfl #[.agg #[.int .i64 a0_0, .slice A0_1 l0_1.length c0_1]] rfl (by (try simp only [List.map_toArray, List.map_cons, List.map_nil]); first | done | rfl) ?_; (with_reducible refine (gameOf_calls k a0_0 A0_1 c0_1 l0_1 _ _ (Kd.C_below HR.out HB.out) HC.out HT.out).mono ?_); rintro e w2 ⟨g, bm, rfl, hgm, hmp, hne, hgw, hmw, hb⟩; refine ⟨_, rfl, ?_⟩; have HG := Aside0.mk hgm; have n0_ := Aside0.mk (below_step HB.out hb); clear HB; have HB := n0_; clear n0_ hgm hmp hne hgw hmw hb BKL))
    go_ret2
    exact ⟨_, rfl, Kd.R_nil _ _ _ _ _, HB.out⟩
  | true =>
    rw [if_pos rfl] at h
    by_cases hn : l0_1.length ≤ 12
    case neg => rw [if_neg hn] at h; cases h
    rw [if_pos hn] at h
    replace h := Option.bind_eq_some_iff.mp h
    obtain ⟨rr, hm, h⟩ := h
    simp only [Option.some.injEq, Prod.mk.injEq] at h
    obtain ⟨rfl, rfl⟩ := h
    have HN := Lib.hid hn
    have HM := Aside0.mk hm
    obtain ⟨S, hS⟩ : ∃ S, S = 2 ^ l0_1.length - 1 := ⟨_, rfl⟩
    have HS4 := Lib.hid (show S < 4096 by have h1 := Nat.pow_le_pow_right (n := 2) (by decide) hn; rw [hS]; omega)
    have HSS := Lib.hid hS
    clear hn hm hS
    go_enter Try.func29, Try.ntmps29
    go_wp2_with (first | ((with_reducible refine gate_dst (N := 1) rfl ?_); refine box_event ?hg (N := 1) ?hd (cs := #[.int .i64 a0_0, .slice A0_1 l0_1.length c0_1]) (t := 28) ?hr ?_; (case hd => rfl); (case hg => rfl); (case hr => first | (go_simp; done) | (go_simp; rfl)); intro gl hg w1 hbox hb; have n0_ := Aside0.mk (below_step HB.out hb); clear HB; have HB := n0_; clear n0_; have BKL := Aside0.mk hbox; clear hbox hb hg; have hcz0 : w1.cell? ⟨gl, 0, none⟩ = some (.int .i64 a0_0) := (blk_cell BKL.out 0).trans rfl; have hcz1 : w1.cell? ⟨gl, 1, none⟩ = some (.slice A0_1 l0_1.length c0_1) := (blk_cell BKL.out 1).trans rfl; have hfz0 := blk_frozen BKL.out 0; have hfz1 := blk_frozen BKL.out 1) | ((with_reducible refine gate_callee (f := 37) rfl ?_); refine goesL_ (some 10) rfl rfl Try.func37 (by kernel_rfl) rfl #[.agg #[.int .i64 a0_0, .slice A0_1 l0_1.length c0_1]] rfl (by (try simp only [List.map_toArray, List.map_cons, List.map_nil]); first | done | rfl) ?_; (with_reducible refine (gameOf_calls k a0_0 A0_1 c0_1 l0_1 _ _ (Kd.C_below HR.out HB.out) HC.out HT.out).mono ?_); rintro e w2 ⟨g, bm, rfl, hgm, hmp, hne, hgw, hmw, hb⟩; refine ⟨_, rfl, ?_⟩; have HSU := Aside0.mk (show Setup w A0_1 c0_1 a0_0 l0_1 g bm from ⟨HR.out, HC.out, HN.out, Nat.le_trans HB.out.size hgw, Nat.le_trans HB.out.size hmw, hne⟩); have HG := Aside0.mk (show Gm w A0_1 c0_1 a0_0 l0_1 g bm w2 from ⟨hgm, ⟨.map [], hmp, KnownD.nil _ _⟩, below_step HB.out hb⟩); have BKL2 := Aside0.mk (blk_below BKL.out hb); clear BKL HB hgm hmp hne hgw hmw hb; have hcy1 : w2.cell? ⟨gl, 1, none⟩ = some (.slice A0_1 l0_1.length c0_1) := (blk_cell BKL2.out 1).trans rfl) | ((with_reducible refine gate_dst (N := 15) rfl ?_); refine Kd.R_lit (Kd.int .i64) _ 3 ?hg (N := 15) ?hd (xs := ([] : List (Int))) (inner := []) (ok := (fun k_ => k_ ≠ g ∧ k_ ≠ bm)) (okp := fun _ => False) ?hr ?hp (fun _ hk => hk.elim) ⟨Nat.ne_of_gt HG.out.g_lt, Nat.ne_of_gt HG.out.bm_lt⟩ (Below.refl _ _) (Nat.le_refl _) (by simp) ?_; (case hd => rfl); (case hg => rfl); (case hr => first | (go_simp; done) | (go_simp; rfl)); (case hp => exact (Reps.none _ _)); intro v15 w3 ho hb hg_ hnew_; clear hg_ hnew_; have HRO := Aside0.mk (Kd.R_lower ho HG.out.2.2.size); have n0_ := Aside0.mk (HG.out.below hb); have hcx1 : w3.cell? ⟨gl, 1, none⟩ = some (.slice A0_1 l0_1.length c0_1) := (blk_cell (blk_below BKL2.out hb) 1).trans rfl; clear HG BKL2 ho hb; have HG := n0_; clear n0_))
    clear hcz0 hcz1 hfz0 hfz1 hcy1 hcx1
    go_loopg [6, 19] l0_1.length (fun gg v6 v19 wr => ∃ (i : Nat) (acc r2 : List Int), i ≤ l0_1.length ∧ l0_1.length - i ≤ gg ∧ v19 = .int .i64 (i : Int) ∧ Aside0 (goodGo (takeX (bestF k a0_0 l0_1) k a0_0 l0_1 S) (l0_1.length - i) i = some r2) ∧ Aside0 (acc ++ r2 = rr) ∧ Aside0 (acc.length ≤ i) ∧ Aside0 (Gm w A0_1 c0_1 a0_0 l0_1 g bm wr) ∧ Aside0 (Kd.R (Kd.int .i64) 3 wr w.heap.size (fun k_ => k_ ≠ g ∧ k_ ≠ bm) v6 acc))
    case atStart => exact ⟨0, [], rr, Nat.zero_le _, by omega, rfl, ⟨by rw [HSS.out]; exact HM.out⟩, ⟨rfl⟩, ⟨Nat.le_refl _⟩, ⟨HG.out⟩, ⟨HRO.out⟩⟩
    case round =>
      clear HG HRO
      obtain ⟨i, acc, r2, hi, hgg, rfl, HGO, HAC, HAL, HG, HRO⟩ := hrel
      by_cases hlt : i < l0_1.length
      · have d1 : decide ((i : Int) < (l0_1.length : Int)) = true := decide_eq_true (by omega)
        have hgo := HGO.out
        rw [show l0_1.length - i = (l0_1.length - (i + 1)) + 1 by omega, goodGo] at hgo
        replace hgo := Option.bind_eq_some_iff.mp hgo
        obtain ⟨⟨x, y, z⟩, htk, hgo⟩ := hgo
        replace hgo := Option.bind_eq_some_iff.mp hgo
        obtain ⟨r3, h3, hgo⟩ := hgo
        injection hgo with hgo
        have HTK := Aside0.mk htk
        have H3 := Aside0.mk h3
        have HLT := Lib.hid hlt
        have HI12 := Lib.hid (show i < 12 by have := HN.out; omega)
        have HBIT := Lib.hid (show ¬ S / 2 ^ i % 2 = 0 by rw [HSS.out]; exact full_bit _ _ hlt)
        have HWI := Lib.hid (show wrap64 ((i : Int) + 1) = ((i + 1 : Nat) : Int) by have := HI12.out; unfold wrap64; omega)
        clear hlt hi htk h3 HGO
        cases hx0 : x with
        | true =>
          subst hx0
          rw [if_pos rfl] at hgo
          go_wp2_with (first | ((with_reducible refine (full_calls a0_0 A0_1 c0_1 l0_1 (by have := HN.out; omega) g bm _ HG.out.game).mono ?_); rw [← HSS.out]; rintro e w4 ⟨rfl, ⟨q', rfl⟩⟩) | ((with_reducible refine (take_calls3 HSU.out k S i HS4.out HI12.out HBIT.out true y z HTK.out _ (HG.out.drewN _)).mono ?_); rintro e w5 ⟨rfl, hgm, hgr⟩; have n0_ := Aside0.mk hgm; have n1_ := Aside0.mk (Kd.R_grown (Kd.R_drewN HRO.out _) hgr (fun k_ hk_ e_ => hk_.2 (by injection e_))); clear HG HRO hgm hgr; have HG := n0_; have HRO := n1_; clear n0_ n1_) | ((with_reducible refine gate_builtin (b := .append) (xs := #[.tmp 28, .tmp 30]) rfl ?_); at_builtin; refine Kd.R_append (Kd.int .i64) (w0 := w) w.heap.size rfl (.tmp 28) (.tmp 30) 22 3 (.int .i64 0) 8 rfl Try.underlying22 info3 rfl (by decide) (by omega) u6 acc (i : Int) [.int .i64 (i : Int)] (fun k_ => k_ ≠ g ∧ k_ ≠ bm) (fun _ => False) rfl rfl ?aP (fun _ hk => hk.elim) ?aF ?aO ?aB ?aS ?aL ?_; (case aP => exact rfl); (case aB => exact HG.out.2.2); (case aF => exact (fun k_ hk => ⟨Nat.ne_of_gt (Nat.lt_of_lt_of_le HG.out.g_lt hk), Nat.ne_of_gt (Nat.lt_of_lt_of_le HG.out.bm_lt hk)⟩)); (case aO => exact HRO.out); (case aS => exact HG.out.2.2.size); (case aL => exact (by have := HI12.out; have := HAL.out; omega)); intro v2 w2 ho hb hg hat; have n0_ := Aside0.mk (HG.out.row hg (fun k_ e_ => ⟨HRO.out.1 k_ e_, Kd.R_base HRO.out k_ e_⟩)); have n1_ := Aside0.mk ho; clear HG HRO ho hb hg hat; have HG := n0_; have HRO := n1_; clear n0_ n1_))
          go_roundg (l0_1.length - (i + 1))
          case measure => have := HLT.out; omega
          case rel => exact ⟨i + 1, acc ++ [(i : Int)], r3, HLT.out, Nat.le_refl _, by rw [← HWI.out], H3, ⟨by rw [← HAC.out, ← hgo, List.append_assoc]; rfl⟩, ⟨by rw [List.length_append]; have := HAL.out; simp; omega⟩, HG, HRO⟩
        | false =>
          subst hx0
          rw [if_neg (by simp)] at hgo
          go_wp2_with (first | ((with_reducible refine (full_calls a0_0 A0_1 c0_1 l0_1 (by have := HN.out; omega) g bm _ HG.out.game).mono ?_); rw [← HSS.out]; rintro e w4 ⟨rfl, ⟨q', rfl⟩⟩) | ((with_reducible refine (take_calls3 HSU.out k S i HS4.out HI12.out HBIT.out false y z HTK.out _ (HG.out.drewN _)).mono ?_); rintro e w5 ⟨rfl, hgm, hgr⟩; have n0_ := Aside0.mk hgm; have n1_ := Aside0.mk (Kd.R_grown (Kd.R_drewN HRO.out _) hgr (fun k_ hk_ e_ => hk_.2 (by injection e_))); clear HG HRO hgm hgr; have HG := n0_; have HRO := n1_; clear n0_ n1_))
          go_roundg (l0_1.length - (i + 1))
          case measure => have := HLT.out; omega
          case rel => exact ⟨i + 1, acc, r3, HLT.out, Nat.le_refl _, by rw [← HWI.out], H3, ⟨by rw [← HAC.out, ← hgo]⟩, ⟨by have := HAL.out; omega⟩, HG, HRO⟩
      · have d1 : decide ((i : Int) < (l0_1.length : Int)) = false := decide_eq_false (by omega)
        obtain rfl : i = l0_1.length := by omega
        have hgo := HGO.out
        rw [Nat.sub_self, goodGo] at hgo
        injection hgo with hgo
        subst hgo
        have hac := HAC.out
        rw [List.append_nil] at hac
        have HAA := Aside0.mk hac
        clear hac HGO HAC hlt hi
        go_wp2
        go_ret2
        exact ⟨_, rfl, by rw [← HAA.out]; exact Kd.R_mono HRO.out (fun _ _ => trivial), HG.out.2.2⟩


/-! ### laws_FnExactGoodTakes: function 8 -/
def laws_FnExactGoodTakes.f (k : Nat) (a0_0 : Int) (l0_1 : List Int) : Option (Bool) := (laws_szLadder.f a0_0 l0_1 1048576).bind fun t365 => (if t365 < 0 then (some true) else ((laws_toLadder.f k a0_0 l0_1).bind fun bt366 => ((spec_GoodTakes.f k bt366.1 bt366.2).bind fun bt370 => ((laws_toLadder.f k a0_0 l0_1).bind fun bt374 => ((impl_GoodTakes.f k bt374.1 bt374.2).bind fun bt379 => ((laws_eqIntS.f k bt379.1 bt370.1).bind fun t383 => (if t383 = true then (if (bt379.2 != bt370.2) = true then (none) else ((laws_toLadder.f k a0_0 l0_1).bind fun bt384 => ((laws_eqLadder.f k bt374.1 bt374.2 bt384.1 bt384.2).bind fun t388 => (if t388 = true then ((laws_markLadder.f k bt374.1 bt374.2 1).bind fun bt389 => (if bt389.1 < 0 then (none) else ((laws_eqIntS.f k bt379.1 bt370.1).bind fun t391 => (if t391 = true then ((laws_markIntS.f k bt379.1 1).bind fun bt392 => ((laws_heldIntS.f k bt392.2 1).bind fun t394 => (if t394 < 0 then (none) else (if t394 = bt392.1 then ((laws_toLadder.f k a0_0 l0_1).bind fun bt395 => ((impl_GoodTakes.f k bt395.1 bt395.2).bind fun bt399 => ((laws_eqIntS.f k bt399.1 bt370.1).bind fun t403 => (if t403 = true then (if (bt399.2 != bt370.2) = true then (none) else ((laws_heldIntS.f k bt392.2 1).bind fun t404 => (if t404 < 0 then (none) else (if t404 = bt392.1 then (some true) else (none))))) else (none))))) else (none))))) else (none))))) else (none))))) else (none))))))))
theorem laws_FnExactGoodTakes.mono : ∀ a0 a1 k, LeO (laws_FnExactGoodTakes.f k a0 a1) (laws_FnExactGoodTakes.f (k + 1) a0 a1) := by
  intro a0 a1 k
  unfold laws_FnExactGoodTakes.f
  repeat' first
      | (with_reducible exact impl_GoodTakes.mono _ _ _)
      | (with_reducible exact laws_eqIntS.mono _ _ _)
      | (with_reducible exact laws_eqLadder.mono _ _ _ _ _)
      | (with_reducible exact laws_heldIntS.mono _ _ _)
      | (with_reducible exact laws_markIntS.mono _ _ _)
      | (with_reducible exact laws_markLadder.mono _ _ _ _)
      | (with_reducible exact laws_toLadder.mono _ _ _)
      | (with_reducible exact spec_GoodTakes.mono _ _ _)
      | (with_reducible exact LeO.refl _)
      | (with_reducible exact LeO.none _)
      | (with_reducible refine LeO.ite ?_ ?_)
      | (with_reducible refine LeO.bind ?_ (fun _ => ?_))
      | exact impl_GoodTakes.mono _ _ _
      | exact laws_eqIntS.mono _ _ _
      | exact laws_eqLadder.mono _ _ _ _ _
      | exact laws_heldIntS.mono _ _ _
      | exact laws_markIntS.mono _ _ _
      | exact laws_markLadder.mono _ _ _ _
      | exact laws_toLadder.mono _ _ _
      | exact spec_GoodTakes.mono _ _ _
      | exact LeO.none _
      | refine LeO.ite ?_ ?_
      | refine LeO.bind ?_ (fun _ => ?_)
set_option maxHeartbeats 8000000 in
set_option maxRecDepth 100000 in
theorem laws_FnExactGoodTakes.calls (k : Nat) (a0_0 : Int) (A0_1 : Option Addr) (c0_1 : Nat) (l0_1 : List Int) (r : Bool) (w : World) (hr0_1 : Kd.C (Kd.int .i64) w A0_1 l0_1.length l0_1) (hc0_1 : l0_1.length ≤ c0_1) (h : laws_FnExactGoodTakes.f k a0_0 l0_1 = some r) :
    Calls Try.prog 8 #[.agg #[.int .i64 a0_0, .slice A0_1 l0_1.length c0_1]] w fun e w' => e = .returned (.bool r) ∧ Below w.heap.size w w' := by
  have hu24 := Try.underlying24
  have hu28 := Try.underlying28
  have HR0_1 := Aside0.mk hr0_1
  have HC0_1 := Aside0.mk hc0_1
  clear hr0_1 hc0_1
  have HB := Aside0.mk (Below.refl w.heap.size w)
  have H : ((laws_szLadder.f a0_0 l0_1 1048576).bind fun t365 => (if t365 < 0 then (some true) else ((laws_toLadder.f k a0_0 l0_1).bind fun bt366 => ((spec_GoodTakes.f k bt366.1 bt366.2).bind fun bt370 => ((laws_toLadder.f k a0_0 l0_1).bind fun bt374 => ((impl_GoodTakes.f k bt374.1 bt374.2).bind fun bt379 => ((laws_eqIntS.f k bt379.1 bt370.1).bind fun t383 => (if t383 = true then (if (bt379.2 != bt370.2) = true then (none) else ((laws_toLadder.f k a0_0 l0_1).bind fun bt384 => ((laws_eqLadder.f k bt374.1 bt374.2 bt384.1 bt384.2).bind fun t388 => (if t388 = true then ((laws_markLadder.f k bt374.1 bt374.2 1).bind fun bt389 => (if bt389.1 < 0 then (none) else ((laws_eqIntS.f k bt379.1 bt370.1).bind fun t391 => (if t391 = true then ((laws_markIntS.f k bt379.1 1).bind fun bt392 => ((laws_heldIntS.f k bt392.2 1).bind fun t394 => (if t394 < 0 then (none) else (if t394 = bt392.1 then ((laws_toLadder.f k a0_0 l0_1).bind fun bt395 => ((impl_GoodTakes.f k bt395.1 bt395.2).bind fun bt399 => ((laws_eqIntS.f k bt399.1 bt370.1).bind fun t403 => (if t403 = true then (if (bt399.2 != bt370.2) = true then (none) else ((laws_heldIntS.f k bt392.2 1).bind fun t404 => (if t404 < 0 then (none) else (if t404 = bt392.1 then (some true) else (none))))) else (none))))) else (none))))) else (none))))) else (none))))) else (none))))))))) = some r := h
  clear h
  replace H := Option.bind_eq_some_iff.mp H
  obtain ⟨t365, A20, H⟩ := H
  replace H : (if t365 < 0 then (some true) else ((laws_toLadder.f k a0_0 l0_1).bind fun bt366 => ((spec_GoodTakes.f k bt366.1 bt366.2).bind fun bt370 => ((laws_toLadder.f k a0_0 l0_1).bind fun bt374 => ((impl_GoodTakes.f k bt374.1 bt374.2).bind fun bt379 => ((laws_eqIntS.f k bt379.1 bt370.1).bind fun t383 => (if t383 = true then (if (bt379.2 != bt370.2) = true then (none) else ((laws_toLadder.f k a0_0 l0_1).bind fun bt384 => ((laws_eqLadder.f k bt374.1 bt374.2 bt384.1 bt384.2).bind fun t388 => (if t388 = true then ((laws_markLadder.f k bt374.1 bt374.2 1).bind fun bt389 => (if bt389.1 < 0 then (none) else ((laws_eqIntS.f k bt379.1 bt370.1).bind fun t391 => (if t391 = true then ((laws_markIntS.f k bt379.1 1).bind fun bt392 => ((laws_heldIntS.f k bt392.2 1).bind fun t394 => (if t394 < 0 then (none) else (if t394 = bt392.1 then ((laws_toLadder.f k a0_0 l0_1).bind fun bt395 => ((impl_GoodTakes.f k bt395.1 bt395.2).bind fun bt399 => ((laws_eqIntS.f k bt399.1 bt370.1).bind fun t403 => (if t403 = true then (if (bt399.2 != bt370.2) = true then (none) else ((laws_heldIntS.f k bt392.2 1).bind fun t404 => (if t404 < 0 then (none) else (if t404 = bt392.1 then (some true) else (none))))) else (none))))) else (none))))) else (none))))) else (none))))) else (none)))))))) = some r := H
  have A2 := Aside0.mk A20
  clear A20
  by_cases c3 : t365 < 0
  · rw [if_pos c3] at H
    have c3b0 : decide (t365 < 0) = true := decide_eq_true c3
    clear c3
    obtain rfl := Option.some.inj H
    go_enter Try.func8, Try.ntmps8
    go_wp2_with (first | ((with_reducible refine gate_dst (N := 1) rfl ?_); refine box_event ?hg (N := 1) ?hd (cs := #[.int .i64 a0_0, .slice A0_1 l0_1.length c0_1]) (t := 24) ?hr ?_; (case hd => rfl); (case hg => rfl); (case hr => first | (go_simp; done) | (go_simp; rfl)); intro gb364 hg w4 hbox hb; have n0_ := Aside0.mk (below_step (by repeat (first | (with_reducible first | exact HB.out | apply below_alloc | apply pw_below_drewN | apply below_drew1) | exact HB.out)) hb); have n1_ := Aside0.mk (hbox); have n2_ := Aside0.mk ((by rw [hg]; exact (below_size (by repeat (first | (with_reducible first | exact HB.out | apply below_alloc | apply pw_below_drewN | apply below_drew1) | exact HB.out))) : w.heap.size ≤ gb364)); have n3_ := Aside0.mk ((by rw [hg]; exact (below_size (by repeat (first | (with_reducible first | exact HB.out | apply below_alloc | apply pw_below_drewN | apply below_drew1) | exact HB.out))) : w.heap.size ≤ gb364)); clear HB; have HB := n0_; have BK364 := n1_; have GW364 := n2_; have GE364 := n3_; clear n0_ n1_ n2_ n3_; clear hb hbox hg; have hcz5_0 : w4.cell? ⟨gb364, 0, none⟩ = some (.int .i64 a0_0) := (blk_cell BK364.out 0).trans rfl; have hcz5_1 : w4.cell? ⟨gb364, 1, none⟩ = some (.slice A0_1 l0_1.length c0_1) := (blk_cell BK364.out 1).trans rfl; have hfz5_0 := blk_frozen BK364.out 0; have hfz5_1 := blk_frozen BK364.out 1) | ((with_reducible refine gate_callee (f := 10) rfl ?_); refine goesL_ (some 16) rfl rfl Try.func10 (by kernel_rfl) rfl #[.agg #[.int .i64 a0_0, .slice A0_1 l0_1.length c0_1], .int .i64 1048576] rfl (by (try simp only [List.map_toArray, List.map_cons, List.map_nil]); first | done | rfl | (simp only [List.length_drop, List.length_take]; rfl)) ?_; (with_reducible refine (laws_szLadder.calls a0_0 _ _ l0_1 1048576 t365 _ ?side1 ?side2 A2.out).mono ?_); (case side1 => repeat (first | exact (Kd.C_below HR0_1.out HB.out) | (with_reducible refine Kd.C_alloc ?_ _) | (with_reducible refine Kd.C_drewN ?_ _) | (with_reducible refine Kd.C_drew ?_))); (case side2 => exact HC0_1.out); rintro e w6 ⟨rfl, hb⟩; refine ⟨_, rfl, ?_⟩; have n0_ := Aside0.mk (blk_below (g := gb364) (o := .cells #[.int .i64 a0_0, .slice A0_1 l0_1.length c0_1] 24 (0, 0)) (by (with_reducible repeat (first | refine blk_drewN ?_ _ | refine blk_drew ?_ | refine blk_alloc ?_ _)); exact BK364.out) hb); have n1_ := Aside0.mk (below_step (by repeat (first | (with_reducible first | exact HB.out | apply below_alloc | apply pw_below_drewN | apply below_drew1 | refine below_set ?_ GE364.out) | exact HB.out)) hb); clear BK364; clear HB; have BK364 := n0_; have HB := n1_; clear n0_ n1_; (try clear hb); (try clear hb2); (try clear hk); (try clear hi)))
    go_ret
    exact ⟨by first | rfl | (simp [errW_none, errW_some] <;> rfl) | (simp [*, errW_none, errW_some] <;> rfl), by repeat (first | (with_reducible first | exact HB.out | apply below_alloc | apply pw_below_drewN | apply below_drew1 | refine below_set ?_ GE364.out) | exact HB.out)⟩
  · rw [if_neg c3] at H
    have c3b0 : decide (t365 < 0) = false := decide_eq_false c3
    clear c3
    replace H := Option.bind_eq_some_iff.mp H
    obtain ⟨⟨t366, t367⟩, A70, H⟩ := H
    replace H : ((spec_GoodTakes.f k t366 t367).bind fun bt370 => ((laws_toLadder.f k a0_0 l0_1).bind fun bt374 => ((impl_GoodTakes.f k bt374.1 bt374.2).bind fun bt379 => ((laws_eqIntS.f k bt379.1 bt370.1).bind fun t383 => (if t383 = true then (if (bt379.2 != bt370.2) = true then (none) else ((laws_toLadder.f k a0_0 l0_1).bind fun bt384 => ((laws_eqLadder.f k bt374.1 bt374.2 bt384.1 bt384.2).bind fun t388 => (if t388 = true then ((laws_markLadder.f k bt374.1 bt374.2 1).bind fun bt389 => (if bt389.1 < 0 then (none) else ((laws_eqIntS.f k bt379.1 bt370.1).bind fun t391 => (if t391 = true then ((laws_markIntS.f k bt379.1 1).bind fun bt392 => ((laws_heldIntS.f k bt392.2 1).bind fun t394 => (if t394 < 0 then (none) else (if t394 = bt392.1 then ((laws_toLadder.f k a0_0 l0_1).bind fun bt395 => ((impl_GoodTakes.f k bt395.1 bt395.2).bind fun bt399 => ((laws_eqIntS.f k bt399.1 bt370.1).bind fun t403 => (if t403 = true then (if (bt399.2 != bt370.2) = true then (none) else ((laws_heldIntS.f k bt392.2 1).bind fun t404 => (if t404 < 0 then (none) else (if t404 = bt392.1 then (some true) else (none))))) else (none))))) else (none))))) else (none))))) else (none))))) else (none)))))) = some r := H
    have A7 := Aside0.mk A70
    clear A70
    replace H := Option.bind_eq_some_iff.mp H
    obtain ⟨⟨t370, t373⟩, A80, H⟩ := H
    replace H : ((laws_toLadder.f k a0_0 l0_1).bind fun bt374 => ((impl_GoodTakes.f k bt374.1 bt374.2).bind fun bt379 => ((laws_eqIntS.f k bt379.1 t370).bind fun t383 => (if t383 = true then (if (bt379.2 != t373) = true then (none) else ((laws_toLadder.f k a0_0 l0_1).bind fun bt384 => ((laws_eqLadder.f k bt374.1 bt374.2 bt384.1 bt384.2).bind fun t388 => (if t388 = true then ((laws_markLadder.f k bt374.1 bt374.2 1).bind fun bt389 => (if bt389.1 < 0 then (none) else ((laws_eqIntS.f k bt379.1 t370).bind fun t391 => (if t391 = true then ((laws_markIntS.f k bt379.1 1).bind fun bt392 => ((laws_heldIntS.f k bt392.2 1).bind fun t394 => (if t394 < 0 then (none) else (if t394 = bt392.1 then ((laws_toLadder.f k a0_0 l0_1).bind fun bt395 => ((impl_GoodTakes.f k bt395.1 bt395.2).bind fun bt399 => ((laws_eqIntS.f k bt399.1 t370).bind fun t403 => (if t403 = true then (if (bt399.2 != t373) = true then (none) else ((laws_heldIntS.f k bt392.2 1).bind fun t404 => (if t404 < 0 then (none) else (if t404 = bt392.1 then (some true) else (none))))) else (none))))) else (none))))) else (none))))) else (none))))) else (none))))) = some r := H
    have A8 := Aside0.mk A80
    clear A80
    replace H := Option.bind_eq_some_iff.mp H
    obtain ⟨⟨t374, t375⟩, A90, H⟩ := H
    replace H : ((impl_GoodTakes.f k t374 t375).bind fun bt379 => ((laws_eqIntS.f k bt379.1 t370).bind fun t383 => (if t383 = true then (if (bt379.2 != t373) = true then (none) else ((laws_toLadder.f k a0_0 l0_1).bind fun bt384 => ((laws_eqLadder.f k t374 t375 bt384.1 bt384.2).bind fun t388 => (if t388 = true then ((laws_markLadder.f k t374 t375 1).bind fun bt389 => (if bt389.1 < 0 then (none) else ((laws_eqIntS.f k bt379.1 t370).bind fun t391 => (if t391 = true then ((laws_markIntS.f k bt379.1 1).bind fun bt392 => ((laws_heldIntS.f k bt392.2 1).bind fun t394 => (if t394 < 0 then (none) else (if t394 = bt392.1 then ((laws_toLadder.f k a0_0 l0_1).bind fun bt395 => ((impl_GoodTakes.f k bt395.1 bt395.2).bind fun bt399 => ((laws_eqIntS.f k bt399.1 t370).bind fun t403 => (if t403 = true then (if (bt399.2 != t373) = true then (none) else ((laws_heldIntS.f k bt392.2 1).bind fun t404 => (if t404 < 0 then (none) else (if t404 = bt392.1 then (some true) else (none))))) else (none))))) else (none))))) else (none))))) else (none))))) else (none)))) = some r := H
    have A9 := Aside0.mk A90
    clear A90
    replace H := Option.bind_eq_some_iff.mp H
    obtain ⟨⟨t379, t382⟩, A100, H⟩ := H
    replace H : ((laws_eqIntS.f k t379 t370).bind fun t383 => (if t383 = true then (if (t382 != t373) = true then (none) else ((laws_toLadder.f k a0_0 l0_1).bind fun bt384 => ((laws_eqLadder.f k t374 t375 bt384.1 bt384.2).bind fun t388 => (if t388 = true then ((laws_markLadder.f k t374 t375 1).bind fun bt389 => (if bt389.1 < 0 then (none) else ((laws_eqIntS.f k t379 t370).bind fun t391 => (if t391 = true then ((laws_markIntS.f k t379 1).bind fun bt392 => ((laws_heldIntS.f k bt392.2 1).bind fun t394 => (if t394 < 0 then (none) else (if t394 = bt392.1 then ((laws_toLadder.f k a0_0 l0_1).bind fun bt395 => ((impl_GoodTakes.f k bt395.1 bt395.2).bind fun bt399 => ((laws_eqIntS.f k bt399.1 t370).bind fun t403 => (if t403 = true then (if (bt399.2 != t373) = true then (none) else ((laws_heldIntS.f k bt392.2 1).bind fun t404 => (if t404 < 0 then (none) else (if t404 = bt392.1 then (some true) else (none))))) else (none))))) else (none))))) else (none))))) else (none))))) else (none))) = some r := H
    have A10 := Aside0.mk A100
    clear A100
    replace H := Option.bind_eq_some_iff.mp H
    obtain ⟨t383, A110, H⟩ := H
    replace H : (if t383 = true then (if (t382 != t373) = true then (none) else ((laws_toLadder.f k a0_0 l0_1).bind fun bt384 => ((laws_eqLadder.f k t374 t375 bt384.1 bt384.2).bind fun t388 => (if t388 = true then ((laws_markLadder.f k t374 t375 1).bind fun bt389 => (if bt389.1 < 0 then (none) else ((laws_eqIntS.f k t379 t370).bind fun t391 => (if t391 = true then ((laws_markIntS.f k t379 1).bind fun bt392 => ((laws_heldIntS.f k bt392.2 1).bind fun t394 => (if t394 < 0 then (none) else (if t394 = bt392.1 then ((laws_toLadder.f k a0_0 l0_1).bind fun bt395 => ((impl_GoodTakes.f k bt395.1 bt395.2).bind fun bt399 => ((laws_eqIntS.f k bt399.1 t370).bind fun t403 => (if t403 = true then (if (bt399.2 != t373) = true then (none) else ((laws_heldIntS.f k bt392.2 1).bind fun t404 => (if t404 < 0 then (none) else (if t404 = bt392.1 then (some true) else (none))))) else (none))))) else (none))))) else (none))))) else (none))))) else (none)) = some r := H
    have A11 := Aside0.mk A110
    clear A110
    by_cases c12 : t383 = true
    · subst c12
      have H1 : (if (t382 != t373) = true then (none) else ((laws_toLadder.f k a0_0 l0_1).bind fun bt384 => ((laws_eqLadder.f k t374 t375 bt384.1 bt384.2).bind fun t388 => (if t388 = true then ((laws_markLadder.f k t374 t375 1).bind fun bt389 => (if bt389.1 < 0 then (none) else ((laws_eqIntS.f k t379 t370).bind fun t391 => (if t391 = true then ((laws_markIntS.f k t379 1).bind fun bt392 => ((laws_heldIntS.f k bt392.2 1).bind fun t394 => (if t394 < 0 then (none) else (if t394 = bt392.1 then ((laws_toLadder.f k a0_0 l0_1).bind fun bt395 => ((impl_GoodTakes.f k bt395.1 bt395.2).bind fun bt399 => ((laws_eqIntS.f k bt399.1 t370).bind fun t403 => (if t403 = true then (if (bt399.2 != t373) = true then (none) else ((laws_heldIntS.f k bt392.2 1).bind fun t404 => (if t404 < 0 then (none) else (if t404 = bt392.1 then (some true) else (none))))) else (none))))) else (none))))) else (none))))) else (none))))) = some r := by rw [if_pos rfl] at H; exact H
      clear H
      have H := H1
      clear H1
      by_cases c13 : (t382 != t373) = true
      · rw [if_pos c13] at H
        exact absurd H (by simp)
      · rw [if_neg c13] at H
        have c13b0 : (t382 != t373) = false := by simpa using c13
        (try (have c13b1 : decide (t382 = t373) = true := by simpa using c13))
        (try (have c13b2 : (t382 == t373) = true := by simpa using c13))
        clear c13
        replace H := Option.bind_eq_some_iff.mp H
        obtain ⟨⟨t384, t385⟩, A140, H⟩ := H
        replace H : ((laws_eqLadder.f k t374 t375 t384 t385).bind fun t388 => (if t388 = true then ((laws_markLadder.f k t374 t375 1).bind fun bt389 => (if bt389.1 < 0 then (none) else ((laws_eqIntS.f k t379 t370).bind fun t391 => (if t391 = true then ((laws_markIntS.f k t379 1).bind fun bt392 => ((laws_heldIntS.f k bt392.2 1).bind fun t394 => (if t394 < 0 then (none) else (if t394 = bt392.1 then ((laws_toLadder.f k a0_0 l0_1).bind fun bt395 => ((impl_GoodTakes.f k bt395.1 bt395.2).bind fun bt399 => ((laws_eqIntS.f k bt399.1 t370).bind fun t403 => (if t403 = true then (if (bt399.2 != t373) = true then (none) else ((laws_heldIntS.f k bt392.2 1).bind fun t404 => (if t404 < 0 then (none) else (if t404 = bt392.1 then (some true) else (none))))) else (none))))) else (none))))) else (none))))) else (none))) = some r := H
        have A14 := Aside0.mk A140
        clear A140
        replace H := Option.bind_eq_some_iff.mp H
        obtain ⟨t388, A150, H⟩ := H
        replace H : (if t388 = true then ((laws_markLadder.f k t374 t375 1).bind fun bt389 => (if bt389.1 < 0 then (none) else ((laws_eqIntS.f k t379 t370).bind fun t391 => (if t391 = true then ((laws_markIntS.f k t379 1).bind fun bt392 => ((laws_heldIntS.f k bt392.2 1).bind fun t394 => (if t394 < 0 then (none) else (if t394 = bt392.1 then ((laws_toLadder.f k a0_0 l0_1).bind fun bt395 => ((impl_GoodTakes.f k bt395.1 bt395.2).bind fun bt399 => ((laws_eqIntS.f k bt399.1 t370).bind fun t403 => (if t403 = true then (if (bt399.2 != t373) = true then (none) else ((laws_heldIntS.f k bt392.2 1).bind fun t404 => (if t404 < 0 then (none) else (if t404 = bt392.1 then (some true) else (none))))) else (none))))) else (none))))) else (none))))) else (none)) = some r := H
        have A15 := Aside0.mk A150
        clear A150
        by_cases c16 : t388 = true
        · subst c16
          have H1 : ((laws_markLadder.f k t374 t375 1).bind fun bt389 => (if bt389.1 < 0 then (none) else ((laws_eqIntS.f k t379 t370).bind fun t391 => (if t391 = true then ((laws_markIntS.f k t379 1).bind fun bt392 => ((laws_heldIntS.f k bt392.2 1).bind fun t394 => (if t394 < 0 then (none) else (if t394 = bt392.1 then ((laws_toLadder.f k a0_0 l0_1).bind fun bt395 => ((impl_GoodTakes.f k bt395.1 bt395.2).bind fun bt399 => ((laws_eqIntS.f k bt399.1 t370).bind fun t403 => (if t403 = true then (if (bt399.2 != t373) = true then (none) else ((laws_heldIntS.f k bt392.2 1).bind fun t404 => (if t404 < 0 then (none) else (if t404 = bt392.1 then (some true) else (none))))) else (none))))) else (none))))) else (none))))) = some r := by rw [if_pos rfl] at H; exact H
          clear H
          have H := H1
          clear H1
          replace H := Option.bind_eq_some_iff.mp H
          obtain ⟨⟨t389, t390⟩, A170, H⟩ := H
          replace H : (if t389 < 0 then (none) else ((laws_eqIntS.f k t379 t370).bind fun t391 => (if t391 = true then ((laws_markIntS.f k t379 1).bind fun bt392 => ((laws_heldIntS.f k bt392.2 1).bind fun t394 => (if t394 < 0 then (none) else (if t394 = bt392.1 then ((laws_toLadder.f k a0_0 l0_1).bind fun bt395 => ((impl_GoodTakes.f k bt395.1 bt395.2).bind fun bt399 => ((laws_eqIntS.f k bt399.1 t370).bind fun t403 => (if t403 = true then (if (bt399.2 != t373) = true then (none) else ((laws_heldIntS.f k bt392.2 1).bind fun t404 => (if t404 < 0 then (none) else (if t404 = bt392.1 then (some true) else (none))))) else (none))))) else (none))))) else (none)))) = some r := H
          have A17 := Aside0.mk A170
          clear A170
          by_cases c18 : t389 < 0
          · rw [if_pos c18] at H
            exact absurd H (by simp)
          · rw [if_neg c18] at H
            have c18b0 : decide (t389 < 0) = false := decide_eq_false c18
            clear c18
            replace H := Option.bind_eq_some_iff.mp H
            obtain ⟨t391, A190, H⟩ := H
            replace H : (if t391 = true then ((laws_markIntS.f k t379 1).bind fun bt392 => ((laws_heldIntS.f k bt392.2 1).bind fun t394 => (if t394 < 0 then (none) else (if t394 = bt392.1 then ((laws_toLadder.f k a0_0 l0_1).bind fun bt395 => ((impl_GoodTakes.f k bt395.1 bt395.2).bind fun bt399 => ((laws_eqIntS.f k bt399.1 t370).bind fun t403 => (if t403 = true then (if (bt399.2 != t373) = true then (none) else ((laws_heldIntS.f k bt392.2 1).bind fun t404 => (if t404 < 0 then (none) else (if t404 = bt392.1 then (some true) else (none))))) else (none))))) else (none))))) else (none)) = some r := H
            have A19 := Aside0.mk A190
            clear A190
            by_cases c20 : t391 = true
            · subst c20
              have H1 : ((laws_markIntS.f k t379 1).bind fun bt392 => ((laws_heldIntS.f k bt392.2 1).bind fun t394 => (if t394 < 0 then (none) else (if t394 = bt392.1 then ((laws_toLadder.f k a0_0 l0_1).bind fun bt395 => ((impl_GoodTakes.f k bt395.1 bt395.2).bind fun bt399 => ((laws_eqIntS.f k bt399.1 t370).bind fun t403 => (if t403 = true then (if (bt399.2 != t373) = true then (none) else ((laws_heldIntS.f k bt392.2 1).bind fun t404 => (if t404 < 0 then (none) else (if t404 = bt392.1 then (some true) else (none))))) else (none))))) else (none))))) = some r := by rw [if_pos rfl] at H; exact H
              clear H
              have H := H1
              clear H1
              replace H := Option.bind_eq_some_iff.mp H
              obtain ⟨⟨t392, t393⟩, A210, H⟩ := H
              replace H : ((laws_heldIntS.f k t393 1).bind fun t394 => (if t394 < 0 then (none) else (if t394 = t392 then ((laws_toLadder.f k a0_0 l0_1).bind fun bt395 => ((impl_GoodTakes.f k bt395.1 bt395.2).bind fun bt399 => ((laws_eqIntS.f k bt399.1 t370).bind fun t403 => (if t403 = true then (if (bt399.2 != t373) = true then (none) else ((laws_heldIntS.f k t393 1).bind fun t404 => (if t404 < 0 then (none) else (if t404 = t392 then (some true) else (none))))) else (none))))) else (none)))) = some r := H
              have A21 := Aside0.mk A210
              clear A210
              replace H := Option.bind_eq_some_iff.mp H
              obtain ⟨t394, A220, H⟩ := H
              replace H : (if t394 < 0 then (none) else (if t394 = t392 then ((laws_toLadder.f k a0_0 l0_1).bind fun bt395 => ((impl_GoodTakes.f k bt395.1 bt395.2).bind fun bt399 => ((laws_eqIntS.f k bt399.1 t370).bind fun t403 => (if t403 = true then (if (bt399.2 != t373) = true then (none) else ((laws_heldIntS.f k t393 1).bind fun t404 => (if t404 < 0 then (none) else (if t404 = t392 then (some true) else (none))))) else (none))))) else (none))) = some r := H
              have A22 := Aside0.mk A220
              clear A220
              by_cases c23 : t394 < 0
              · rw [if_pos c23] at H
                exact absurd H (by simp)
              · rw [if_neg c23] at H
                have c23b0 : decide (t394 < 0) = false := decide_eq_false c23
                clear c23
                by_cases c24 : t394 = t392
                · rw [if_pos c24] at H
                  have c24b0 : (t394 == t392) = true := beq_iff_eq.mpr c24
                  have c24b1 : (t394 != t392) = false := bne_eq_false_iff_eq.mpr c24
                  clear c24
                  replace H := Option.bind_eq_some_iff.mp H
                  obtain ⟨⟨t395, t396⟩, A250, H⟩ := H
                  replace H : ((impl_GoodTakes.f k t395 t396).bind fun bt399 => ((laws_eqIntS.f k bt399.1 t370).bind fun t403 => (if t403 = true then (if (bt399.2 != t373) = true then (none) else ((laws_heldIntS.f k t393 1).bind fun t404 => (if t404 < 0 then (none) else (if t404 = t392 then (some true) else (none))))) else (none)))) = some r := H
                  have A25 := Aside0.mk A250
                  clear A250
                  replace H := Option.bind_eq_some_iff.mp H
                  obtain ⟨⟨t399, t402⟩, A260, H⟩ := H
                  replace H : ((laws_eqIntS.f k t399 t370).bind fun t403 => (if t403 = true then (if (t402 != t373) = true then (none) else ((laws_heldIntS.f k t393 1).bind fun t404 => (if t404 < 0 then (none) else (if t404 = t392 then (some true) else (none))))) else (none))) = some r := H
                  have A26 := Aside0.mk A260
                  clear A260
                  replace H := Option.bind_eq_some_iff.mp H
                  obtain ⟨t403, A270, H⟩ := H
                  replace H : (if t403 = true then (if (t402 != t373) = true then (none) else ((laws_heldIntS.f k t393 1).bind fun t404 => (if t404 < 0 then (none) else (if t404 = t392 then (some true) else (none))))) else (none)) = some r := H
                  have A27 := Aside0.mk A270
                  clear A270
                  by_cases c28 : t403 = true
                  · subst c28
                    have H1 : (if (t402 != t373) = true then (none) else ((laws_heldIntS.f k t393 1).bind fun t404 => (if t404 < 0 then (none) else (if t404 = t392 then (some true) else (none))))) = some r := by rw [if_pos rfl] at H; exact H
                    clear H
                    have H := H1
                    clear H1
                    by_cases c29 : (t402 != t373) = true
                    · rw [if_pos c29] at H
                      exact absurd H (by simp)
                    · rw [if_neg c29] at H
                      have c29b0 : (t402 != t373) = false := by simpa using c29
                      (try (have c29b1 : decide (t402 = t373) = true := by simpa using c29))
                      (try (have c29b2 : (t402 == t373) = true := by simpa using c29))
                      clear c29
                      replace H := Option.bind_eq_some_iff.mp H
                      obtain ⟨t404, A300, H⟩ := H
                      replace H : (if t404 < 0 then (none) else (if t404 = t392 then (some true) else (none))) = some r := H
                      have A30 := Aside0.mk A300
                      clear A300
                      by_cases c31 : t404 < 0
                      · rw [if_pos c31] at H
                        exact absurd H (by simp)
                      · rw [if_neg c31] at H
                        have c31b0 : decide (t404 < 0) = false := decide_eq_false c31
                        clear c31
                        by_cases c32 : t404 = t392
                        · rw [if_pos c32] at H
                          have c32b0 : (t404 == t392) = true := beq_iff_eq.mpr c32
                          have c32b1 : (t404 != t392) = false := bne_eq_false_iff_eq.mpr c32
                          clear c32
                          obtain rfl := Option.some.inj H
                          go_enter Try.func8, Try.ntmps8
                          try go_wp2_with (first | ((with_reducible refine gate_dst (N := 1) rfl ?_); refine box_event ?hg (N := 1) ?hd (cs := #[.int .i64 a0_0, .slice A0_1 l0_1.length c0_1]) (t := 24) ?hr ?_; (case hd => rfl); (case hg => rfl); (case hr => first | (go_simp; done) | (go_simp; rfl)); intro gb364 hg w33 hbox hb; have n0_ := Aside0.mk (below_step (by repeat (first | (with_reducible first | exact HB.out | apply below_alloc | apply pw_below_drewN | apply below_drew1) | exact HB.out)) hb); have n1_ := Aside0.mk (hbox); have n2_ := Aside0.mk ((by rw [hg]; exact (below_size (by repeat (first | (with_reducible first | exact HB.out | apply below_alloc | apply pw_below_drewN | apply below_drew1) | exact HB.out))) : w.heap.size ≤ gb364)); have n3_ := Aside0.mk ((by rw [hg]; exact (below_size (by repeat (first | (with_reducible first | exact HB.out | apply below_alloc | apply pw_below_drewN | apply below_drew1) | exact HB.out))) : w.heap.size ≤ gb364)); clear HB; have HB := n0_; have BK364 := n1_; have GW364 := n2_; have GE364 := n3_; clear n0_ n1_ n2_ n3_; clear hb hbox hg; have hcz34_0 : w33.cell? ⟨gb364, 0, none⟩ = some (.int .i64 a0_0) := (blk_cell BK364.out 0).trans rfl; have hcz34_1 : w33.cell? ⟨gb364, 1, none⟩ = some (.slice A0_1 l0_1.length c0_1) := (blk_cell BK364.out 1).trans rfl; have hfz34_0 := blk_frozen BK364.out 0; have hfz34_1 := blk_frozen BK364.out 1) | ((with_reducible refine gate_callee (f := 10) rfl ?_); refine goesL_ (some 16) rfl rfl Try.func10 (by kernel_rfl) rfl #[.agg #[.int .i64 a0_0, .slice A0_1 l0_1.length c0_1], .int .i64 1048576] rfl (by (try simp only [List.map_toArray, List.map_cons, List.map_nil]); first | done | rfl | (simp only [List.length_drop, List.length_take]; rfl)) ?_; (with_reducible refine (laws_szLadder.calls a0_0 _ _ l0_1 1048576 t365 _ ?side1 ?side2 A2.out).mono ?_); (case side1 => repeat (first | exact (Kd.C_below HR0_1.out HB.out) | (with_reducible refine Kd.C_alloc ?_ _) | (with_reducible refine Kd.C_drewN ?_ _) | (with_reducible refine Kd.C_drew ?_))); (case side2 => exact HC0_1.out); rintro e w35 ⟨rfl, hb⟩; refine ⟨_, rfl, ?_⟩; have n0_ := Aside0.mk (blk_below (g := gb364) (o := .cells #[.int .i64 a0_0, .slice A0_1 l0_1.length c0_1] 24 (0, 0)) (by (with_reducible repeat (first | refine blk_drewN ?_ _ | refine blk_drew ?_ | refine blk_alloc ?_ _)); exact BK364.out) hb); have n1_ := Aside0.mk (below_step (by repeat (first | (with_reducible first | exact HB.out | apply below_alloc | apply pw_below_drewN | apply below_drew1 | refine below_set ?_ GE364.out) | exact HB.out)) hb); clear BK364; clear HB; have BK364 := n0_; have HB := n1_; clear n0_ n1_; (try clear hb); (try clear hb2); (try clear hk); (try clear hi); have hcz36_0 : w35.cell? ⟨gb364, 0, none⟩ = some (.int .i64 a0_0) := (blk_cell BK364.out 0).trans rfl; have hcz36_1 : w35.cell? ⟨gb364, 1, none⟩ = some (.slice A0_1 l0_1.length c0_1) := (blk_cell BK364.out 1).trans rfl; have hfz36_0 := blk_frozen BK364.out 0; have hfz36_1 := blk_frozen BK364.out 1) | ((with_reducible refine gate_callee (f := 12) rfl ?_); refine goesL_ (some 21) rfl rfl Try.func12 (by kernel_rfl) rfl #[.agg #[.int .i64 a0_0, .slice A0_1 l0_1.length c0_1]] rfl (by (try simp only [List.map_toArray, List.map_cons, List.map_nil]); first | done | rfl | (simp only [List.length_drop, List.length_take]; rfl)) ?_; (with_reducible refine (laws_toLadder.calls k a0_0 _ _ l0_1 t366 t367 _ ?side1 ?side2 A7.out).mono ?_); (case side1 => repeat (first | exact (Kd.C_below HR0_1.out HB.out) | (with_reducible refine Kd.C_alloc ?_ _) | (with_reducible refine Kd.C_drewN ?_ _) | (with_reducible refine Kd.C_drew ?_))); (case side2 => exact HC0_1.out); rintro e w37 ⟨v368, rfl, ho0, hb⟩; refine ⟨_, rfl, ?_⟩; have n0_ := Aside0.mk (Kd.R_lower ho0 (below_size (by repeat (first | (with_reducible first | exact HB.out | apply below_alloc | apply pw_below_drewN | apply below_drew1 | refine below_set ?_ GE364.out) | exact HB.out)))); have n1_ := Aside0.mk (blk_below (g := gb364) (o := .cells #[.int .i64 a0_0, .slice A0_1 l0_1.length c0_1] 24 (0, 0)) (by (with_reducible repeat (first | refine blk_drewN ?_ _ | refine blk_drew ?_ | refine blk_alloc ?_ _)); exact BK364.out) hb); have n2_ := Aside0.mk (below_step (by repeat (first | (with_reducible first | exact HB.out | apply below_alloc | apply pw_below_drewN | apply below_drew1 | refine below_set ?_ GE364.out) | exact HB.out)) hb); clear BK364; clear HB; have HO369 := n0_; have BK364 := n1_; have HB := n2_; clear n0_ n1_ n2_; (try clear hb); (try clear hb2); (try clear hk); (try clear hi); (try clear ho0); obtain ⟨Ao38, co38, eo38⟩ := Kd.R_slice HO369.out; subst eo38) | ((with_reducible refine gate_callee (f := 28) rfl ?_); refine goesL_ (some 22) rfl rfl Try.func28 (by kernel_rfl) rfl #[.agg #[.int .i64 t366, .slice Ao38 t367.length co38]] rfl (by (try simp only [List.map_toArray, List.map_cons, List.map_nil]); first | done | rfl | (simp only [List.length_drop, List.length_take]; rfl)) ?_; (with_reducible refine (spec_GoodTakes.calls k t366 _ _ t367 t370 t373 _ ?side1 ?side2 A8.out).mono ?_); (case side1 => repeat (first | exact (Kd.R_reads' HO369.out).2.2 | (with_reducible refine Kd.C_alloc ?_ _) | (with_reducible refine Kd.C_drewN ?_ _) | (with_reducible refine Kd.C_drew ?_))); (case side2 => exact (Kd.R_reads' HO369.out).2.1); rintro e w39 ⟨v371, rfl, ho0, hb⟩; refine ⟨_, rfl, ?_⟩; have n0_ := Aside0.mk (Kd.R_elder' (by (with_reducible repeat (first | apply Kd.R_alloc | apply Kd.R_drewN | apply Kd.R_drew)); exact HO369.out) (Kd.R_base ho0) hb); have n1_ := Aside0.mk (Kd.R_lower (Kd.R_new' ho0 (Kd.R_lt (by (with_reducible repeat (first | apply Kd.R_alloc | apply Kd.R_drewN | apply Kd.R_drew)); exact HO369.out))) (below_size (by repeat (first | (with_reducible first | exact HB.out | apply below_alloc | apply pw_below_drewN | apply below_drew1 | refine below_set ?_ GE364.out) | exact HB.out)))); have n2_ := Aside0.mk (blk_below (g := gb364) (o := .cells #[.int .i64 a0_0, .slice A0_1 l0_1.length c0_1] 24 (0, 0)) (by (with_reducible repeat (first | refine blk_drewN ?_ _ | refine blk_drew ?_ | refine blk_alloc ?_ _)); exact BK364.out) hb); have n3_ := Aside0.mk (below_step (by repeat (first | (with_reducible first | exact HB.out | apply below_alloc | apply pw_below_drewN | apply below_drew1 | refine below_set ?_ GE364.out) | exact HB.out)) hb); clear HO369; clear BK364; clear HB; have HO369 := n0_; have HO372 := n1_; have BK364 := n2_; have HB := n3_; clear n0_ n1_ n2_ n3_; (try clear hb); (try clear hb2); (try clear hk); (try clear hi); (try clear ho0); have hcz40_0 : w39.cell? ⟨gb364, 0, none⟩ = some (.int .i64 a0_0) := (blk_cell BK364.out 0).trans rfl; have hcz40_1 : w39.cell? ⟨gb364, 1, none⟩ = some (.slice A0_1 l0_1.length c0_1) := (blk_cell BK364.out 1).trans rfl; have hfz40_0 := blk_frozen BK364.out 0; have hfz40_1 := blk_frozen BK364.out 1) | ((with_reducible refine gate_callee (f := 12) rfl ?_); refine goesL_ (some 26) rfl rfl Try.func12 (by kernel_rfl) rfl #[.agg #[.int .i64 a0_0, .slice A0_1 l0_1.length c0_1]] rfl (by (try simp only [List.map_toArray, List.map_cons, List.map_nil]); first | done | rfl | (simp only [List.length_drop, List.length_take]; rfl)) ?_; (with_reducible refine (laws_toLadder.calls k a0_0 _ _ l0_1 t374 t375 _ ?side1 ?side2 A9.out).mono ?_); (case side1 => repeat (first | exact (Kd.C_below HR0_1.out HB.out) | (with_reducible refine Kd.C_alloc ?_ _) | (with_reducible refine Kd.C_drewN ?_ _) | (with_reducible refine Kd.C_drew ?_))); (case side2 => exact HC0_1.out); rintro e w41 ⟨v376, rfl, ho0, hb⟩; refine ⟨_, rfl, ?_⟩; have n0_ := Aside0.mk (Kd.R_elder' (by (with_reducible repeat (first | apply Kd.R_alloc | apply Kd.R_drewN | apply Kd.R_drew)); exact HO369.out) (Kd.R_base ho0) hb); have n1_ := Aside0.mk (Kd.R_elder' (by (with_reducible repeat (first | apply Kd.R_alloc | apply Kd.R_drewN | apply Kd.R_drew)); exact HO372.out) (Kd.R_base ho0) hb); have n2_ := Aside0.mk (Kd.R_lower (Kd.R_new' (Kd.R_new' ho0 (Kd.R_lt (by (with_reducible repeat (first | apply Kd.R_alloc | apply Kd.R_drewN | apply Kd.R_drew)); exact HO369.out))) (Kd.R_lt (by (with_reducible repeat (first | apply Kd.R_alloc | apply Kd.R_drewN | apply Kd.R_drew)); exact HO372.out))) (below_size (by repeat (first | (with_reducible first | exact HB.out | apply below_alloc | apply pw_below_drewN | apply below_drew1 | refine below_set ?_ GE364.out) | exact HB.out)))); have n3_ := Aside0.mk (blk_below (g := gb364) (o := .cells #[.int .i64 a0_0, .slice A0_1 l0_1.length c0_1] 24 (0, 0)) (by (with_reducible repeat (first | refine blk_drewN ?_ _ | refine blk_drew ?_ | refine blk_alloc ?_ _)); exact BK364.out) hb); have n4_ := Aside0.mk (below_step (by repeat (first | (with_reducible first | exact HB.out | apply below_alloc | apply pw_below_drewN | apply below_drew1 | refine below_set ?_ GE364.out) | exact HB.out)) hb); clear HO369; clear HO372; clear BK364; clear HB; have HO369 := n0_; have HO372 := n1_; have HO377 := n2_; have BK364 := n3_; have HB := n4_; clear n0_ n1_ n2_ n3_ n4_; (try clear hb); (try clear hb2); (try clear hk); (try clear hi); (try clear ho0)) | ((with_reducible refine gate_dst (N := 6) rfl ?_); refine box_event ?hg (N := 6) ?hd (cs := #[.int .i64 0, .slice none 0 0]) (t := 28) ?hr ?_; (case hd => rfl); (case hg => rfl); (case hr => first | (go_simp; done) | (go_simp; rfl)); intro gb378 hg w42 hbox hb; have n0_ := Aside0.mk (Kd.R_below (by (with_reducible repeat (first | apply Kd.R_alloc | apply Kd.R_drewN | apply Kd.R_drew)); exact HO369.out) hb); have n1_ := Aside0.mk (Kd.R_below (by (with_reducible repeat (first | apply Kd.R_alloc | apply Kd.R_drewN | apply Kd.R_drew)); exact HO372.out) hb); have n2_ := Aside0.mk (Kd.R_below (by (with_reducible repeat (first | apply Kd.R_alloc | apply Kd.R_drewN | apply Kd.R_drew)); exact HO377.out) hb); have n3_ := Aside0.mk (blk_below (g := gb364) (o := .cells #[.int .i64 a0_0, .slice A0_1 l0_1.length c0_1] 24 (0, 0)) (by (with_reducible repeat (first | refine blk_drewN ?_ _ | refine blk_drew ?_ | refine blk_alloc ?_ _)); exact BK364.out) hb); have n4_ := Aside0.mk (below_step (by repeat (first | (with_reducible first | exact HB.out | apply below_alloc | apply pw_below_drewN | apply below_drew1 | refine below_set ?_ GE364.out) | exact HB.out)) hb); have n5_ := Aside0.mk (hbox); have n6_ := Aside0.mk ((by rw [hg]; exact (below_size (by repeat (first | (with_reducible first | exact HB.out | apply below_alloc | apply pw_below_drewN | apply below_drew1 | refine below_set ?_ GE364.out) | exact HB.out))) : w.heap.size ≤ gb378)); have n7_ := Aside0.mk ((by rw [hg]; exact (below_size (by repeat (first | (with_reducible first | exact HB.out | apply below_alloc | apply pw_below_drewN | apply below_drew1 | refine below_set ?_ GE364.out) | exact HB.out))) : w.heap.size ≤ gb378)); have n8_ := Aside0.mk ((by rw [hg]; exact Nat.ne_of_lt (blk_lt (g := gb364) (o := .cells #[.int .i64 a0_0, .slice A0_1 l0_1.length c0_1] 24 (0, 0)) (by (with_reducible repeat (first | refine blk_drewN ?_ _ | refine blk_drew ?_ | refine blk_alloc ?_ _)); exact BK364.out)) : gb364 ≠ gb378)); have n9_ := Aside0.mk ((by rw [hg]; exact Nat.ne_of_gt (blk_lt (g := gb364) (o := .cells #[.int .i64 a0_0, .slice A0_1 l0_1.length c0_1] 24 (0, 0)) (by (with_reducible repeat (first | refine blk_drewN ?_ _ | refine blk_drew ?_ | refine blk_alloc ?_ _)); exact BK364.out)) : gb378 ≠ gb364)); clear HO369; clear HO372; clear HO377; clear BK364; clear HB; have HO369 := n0_; have HO372 := n1_; have HO377 := n2_; have BK364 := n3_; have HB := n4_; have BK378 := n5_; have GW378 := n6_; have GE378 := n7_; have NB364_378 := n8_; have NB378_364 := n9_; clear n0_ n1_ n2_ n3_ n4_ n5_ n6_ n7_ n8_ n9_; clear hb hbox hg; have hnb43 := NB378_364.out; have hnc43 := NB364_378.out; have hcz44_0 : w42.cell? ⟨gb378, 0, none⟩ = some (.int .i64 0) := (blk_cell BK378.out 0).trans rfl; have hcz44_1 : w42.cell? ⟨gb378, 1, none⟩ = some (.slice none 0 0) := (blk_cell BK378.out 1).trans rfl; have hfz44_0 := blk_frozen BK378.out 0; have hfz44_1 := blk_frozen BK378.out 1; obtain ⟨Ao45, co45, eo45⟩ := Kd.R_slice HO377.out; subst eo45) | ((with_reducible refine gate_callee (f := 29) rfl ?_); refine goesL_ (some 29) rfl rfl Try.func29 (by kernel_rfl) rfl #[.agg #[.int .i64 t374, .slice Ao45 t375.length co45]] rfl (by (try simp only [List.map_toArray, List.map_cons, List.map_nil]); first | done | rfl | (simp only [List.length_drop, List.length_take]; rfl)) ?_; (with_reducible refine (impl_GoodTakes.calls k t374 _ _ t375 t379 t382 _ ?side1 ?side2 A10.out).mono ?_); (case side1 => refine (Kd.R_reads' (e := 3) (base := w.heap.size) (ok := fun k_ => ((True ∧ some k_ ≠ (.slice Ao38 t367.length co38 : Value).ownBlock) ∧ some k_ ≠ (v371 : Value).ownBlock)) (n := t375.length) (c := co45) ?_).2.2; exact (by (with_reducible repeat (first | apply Kd.R_alloc | apply Kd.R_drewN | apply Kd.R_drew)); exact (Kd.R_mono (Kd.R_far (p := ⟨gb378, 1, none⟩) (Kd.R_far (p := ⟨gb378, 0, none⟩) (Kd.R_types HO377.out BK378.out (by decide)) (fun _ hk => hk.2) (.int .i64 t374)) (fun _ hk => hk.2) (.slice Ao45 t375.length co45)) (fun _ h_ => h_.1)))); (case side2 => exact (Kd.R_reads' HO377.out).2.1); rintro e w46 ⟨v380, rfl, ho0, hb⟩; refine ⟨_, rfl, ?_⟩; have n0_ := Aside0.mk (Kd.R_elder' (by (with_reducible repeat (first | apply Kd.R_alloc | apply Kd.R_drewN | apply Kd.R_drew)); exact (Kd.R_mono (Kd.R_far (p := ⟨gb378, 1, none⟩) (Kd.R_far (p := ⟨gb378, 0, none⟩) (Kd.R_types HO369.out BK378.out (by decide)) (fun _ hk => hk.2) (.int .i64 t374)) (fun _ hk => hk.2) (.slice Ao45 t375.length co45)) (fun _ h_ => h_.1))) (Kd.R_base ho0) hb); have n1_ := Aside0.mk (Kd.R_elder' (by (with_reducible repeat (first | apply Kd.R_alloc | apply Kd.R_drewN | apply Kd.R_drew)); exact (Kd.R_mono (Kd.R_far (p := ⟨gb378, 1, none⟩) (Kd.R_far (p := ⟨gb378, 0, none⟩) (Kd.R_types HO372.out BK378.out (by decide)) (fun _ hk => hk.2) (.int .i64 t374)) (fun _ hk => hk.2) (.slice Ao45 t375.length co45)) (fun _ h_ => h_.1))) (Kd.R_base ho0) hb); have n2_ := Aside0.mk (Kd.R_elder' (by (with_reducible repeat (first | apply Kd.R_alloc | apply Kd.R_drewN | apply Kd.R_drew)); exact (Kd.R_mono (Kd.R_far (p := ⟨gb378, 1, none⟩) (Kd.R_far (p := ⟨gb378, 0, none⟩) (Kd.R_types HO377.out BK378.out (by decide)) (fun _ hk => hk.2) (.int .i64 t374)) (fun _ hk => hk.2) (.slice Ao45 t375.length co45)) (fun _ h_ => h_.1))) (Kd.R_base ho0) hb); have n3_ := Aside0.mk (Kd.R_lower (Kd.R_new' (Kd.R_new' (Kd.R_new' ho0 (Kd.R_lt (by (with_reducible repeat (first | apply Kd.R_alloc | apply Kd.R_drewN | apply Kd.R_drew)); exact (Kd.R_mono (Kd.R_far (p := ⟨gb378, 1, none⟩) (Kd.R_far (p := ⟨gb378, 0, none⟩) (Kd.R_types HO369.out BK378.out (by decide)) (fun _ hk => hk.2) (.int .i64 t374)) (fun _ hk => hk.2) (.slice Ao45 t375.length co45)) (fun _ h_ => h_.1))))) (Kd.R_lt (by (with_reducible repeat (first | apply Kd.R_alloc | apply Kd.R_drewN | apply Kd.R_drew)); exact (Kd.R_mono (Kd.R_far (p := ⟨gb378, 1, none⟩) (Kd.R_far (p := ⟨gb378, 0, none⟩) (Kd.R_types HO372.out BK378.out (by decide)) (fun _ hk => hk.2) (.int .i64 t374)) (fun _ hk => hk.2) (.slice Ao45 t375.length co45)) (fun _ h_ => h_.1))))) (Kd.R_lt (by (with_reducible repeat (first | apply Kd.R_alloc | apply Kd.R_drewN | apply Kd.R_drew)); exact (Kd.R_mono (Kd.R_far (p := ⟨gb378, 1, none⟩) (Kd.R_far (p := ⟨gb378, 0, none⟩) (Kd.R_types HO377.out BK378.out (by decide)) (fun _ hk => hk.2) (.int .i64 t374)) (fun _ hk => hk.2) (.slice Ao45 t375.length co45)) (fun _ h_ => h_.1))))) (below_size (by repeat (first | (with_reducible first | exact HB.out | apply below_alloc | apply pw_below_drewN | apply below_drew1 | refine below_set ?_ GE364.out | refine below_set ?_ GE378.out) | exact HB.out)))); have n4_ := Aside0.mk (blk_below (g := gb364) (o := .cells #[.int .i64 a0_0, .slice A0_1 l0_1.length c0_1] 24 (0, 0)) (by (with_reducible repeat (first | refine blk_drewN ?_ _ | refine blk_drew ?_ | refine blk_alloc ?_ _)); refine blk_far ?_ NB364_378.out _; (with_reducible repeat (first | refine blk_drewN ?_ _ | refine blk_drew ?_ | refine blk_alloc ?_ _)); refine blk_far ?_ NB364_378.out _; (with_reducible repeat (first | refine blk_drewN ?_ _ | refine blk_drew ?_ | refine blk_alloc ?_ _)); exact BK364.out) hb); have n5_ := Aside0.mk (blk_below (g := gb378) (o := .cells #[.int .i64 t374, .slice Ao45 t375.length co45] 28 (0, 0)) (by (with_reducible repeat (first | refine blk_drewN ?_ _ | refine blk_drew ?_ | refine blk_alloc ?_ _)); refine blk_put (cs := #[.int .i64 t374, .slice none 0 0]) ?_ 1 _ rfl; (with_reducible repeat (first | refine blk_drewN ?_ _ | refine blk_drew ?_ | refine blk_alloc ?_ _)); refine blk_put (cs := #[.int .i64 0, .slice none 0 0]) ?_ 0 _ rfl; (with_reducible repeat (first | refine blk_drewN ?_ _ | refine blk_drew ?_ | refine blk_alloc ?_ _)); exact BK378.out) hb); have n6_ := Aside0.mk (below_step (by repeat (first | (with_reducible first | exact HB.out | apply below_alloc | apply pw_below_drewN | apply below_drew1 | refine below_set ?_ GE364.out | refine below_set ?_ GE378.out) | exact HB.out)) hb); clear HO369; clear HO372; clear HO377; clear BK364; clear BK378; clear HB; have HO369 := n0_; have HO372 := n1_; have HO377 := n2_; have HO381 := n3_; have BK364 := n4_; have BK378 := n5_; have HB := n6_; clear n0_ n1_ n2_ n3_ n4_ n5_ n6_; (try clear hb); (try clear hb2); (try clear hk); (try clear hi); (try clear ho0); obtain ⟨Ao47, co47, eo47⟩ := Kd.R_slice HO381.out; subst eo47; obtain ⟨Ao48, co48, eo48⟩ := Kd.R_slice HO372.out; subst eo48) | ((with_reducible refine gate_callee (f := 18) rfl ?_); refine goesL_ (some 34) rfl rfl Try.func18 (by kernel_rfl) rfl #[.slice Ao47 t379.length co47, .slice Ao48 t370.length co48] rfl (by (try simp only [List.map_toArray, List.map_cons, List.map_nil]); first | done | rfl | (simp only [List.length_drop, List.length_take]; rfl)) ?_; (with_reducible refine (laws_eqIntS.calls k _ _ t379 _ _ t370 true _ ?side1 ?side2 ?side3 ?side4 A11.out).mono ?_); (case side1 => repeat (first | exact (Kd.R_reads' HO381.out).2.2 | (with_reducible refine Kd.C_alloc ?_ _) | (with_reducible refine Kd.C_drewN ?_ _) | (with_reducible refine Kd.C_drew ?_))); (case side2 => exact (Kd.R_reads' HO381.out).2.1); (case side3 => repeat (first | exact (Kd.R_reads' HO372.out).2.2 | (with_reducible refine Kd.C_alloc ?_ _) | (with_reducible refine Kd.C_drewN ?_ _) | (with_reducible refine Kd.C_drew ?_))); (case side4 => exact (Kd.R_reads' HO372.out).2.1); rintro e w' ⟨rfl, ⟨nd, rfl⟩⟩; refine ⟨_, rfl, ?_⟩))
                          (try (rw [drewN_self w46]; generalize hq_ : World.drewN w46 _ = w46; have n0_ : Aside0 (Kd.R (Kd.int .i64) 3 w46 w.heap.size (fun k_ => some k_ ≠ (.slice Ao48 t370.length co48 : Value).ownBlock ∧ some k_ ≠ (.slice Ao45 t375.length co45 : Value).ownBlock ∧ some k_ ≠ (.slice Ao47 t379.length co47 : Value).ownBlock) (.slice Ao38 t367.length co38) t367) := ⟨by rw [← hq_]; exact (by (with_reducible repeat (first | apply Kd.R_alloc | apply Kd.R_drewN | apply Kd.R_drew)); exact Kd.R_mono HO369.out (fun _ hk => ⟨hk.1.1.2, ⟨hk.1.2, hk.2⟩⟩))⟩; have n1_ : Aside0 (Kd.R (Kd.int .i64) 3 w46 w.heap.size (fun k_ => some k_ ≠ (.slice Ao38 t367.length co38 : Value).ownBlock ∧ some k_ ≠ (.slice Ao45 t375.length co45 : Value).ownBlock ∧ some k_ ≠ (.slice Ao47 t379.length co47 : Value).ownBlock) (.slice Ao48 t370.length co48) t370) := ⟨by rw [← hq_]; exact (by (with_reducible repeat (first | apply Kd.R_alloc | apply Kd.R_drewN | apply Kd.R_drew)); exact Kd.R_mono HO372.out (fun _ hk => ⟨hk.1.1.2, ⟨hk.1.2, hk.2⟩⟩))⟩; have n2_ : Aside0 (Kd.R (Kd.int .i64) 3 w46 w.heap.size (fun k_ => some k_ ≠ (.slice Ao38 t367.length co38 : Value).ownBlock ∧ some k_ ≠ (.slice Ao48 t370.length co48 : Value).ownBlock ∧ some k_ ≠ (.slice Ao47 t379.length co47 : Value).ownBlock) (.slice Ao45 t375.length co45) t375) := ⟨by rw [← hq_]; exact (by (with_reducible repeat (first | apply Kd.R_alloc | apply Kd.R_drewN | apply Kd.R_drew)); exact Kd.R_mono HO377.out (fun _ hk => ⟨hk.1.1.2, ⟨hk.1.2, hk.2⟩⟩))⟩; have n3_ : Aside0 (Kd.R (Kd.int .i64) 3 w46 w.heap.size (fun k_ => some k_ ≠ (.slice Ao38 t367.length co38 : Value).ownBlock ∧ some k_ ≠ (.slice Ao48 t370.length co48 : Value).ownBlock ∧ some k_ ≠ (.slice Ao45 t375.length co45 : Value).ownBlock) (.slice Ao47 t379.length co47) t379) := ⟨by rw [← hq_]; exact (by (with_reducible repeat (first | apply Kd.R_alloc | apply Kd.R_drewN | apply Kd.R_drew)); exact Kd.R_mono HO381.out (fun _ hk => ⟨hk.1.1.2, ⟨hk.1.2, hk.2⟩⟩))⟩; have n4_ : Aside0 (w46.heap[gb364]? = some (.cells #[.int .i64 a0_0, .slice A0_1 l0_1.length c0_1] 24 (0, 0))) := ⟨by rw [← hq_]; exact (by (with_reducible repeat (first | refine blk_drewN ?_ _ | refine blk_drew ?_ | refine blk_alloc ?_ _)); exact BK364.out)⟩; have n5_ : Aside0 (w46.heap[gb378]? = some (.cells #[.int .i64 t374, .slice Ao45 t375.length co45] 28 (0, 0))) := ⟨by rw [← hq_]; exact (by (with_reducible repeat (first | refine blk_drewN ?_ _ | refine blk_drew ?_ | refine blk_alloc ?_ _)); exact BK378.out)⟩; have n6_ : Aside0 (Below w.heap.size w w46) := ⟨by rw [← hq_]; exact (by repeat (first | (with_reducible first | exact HB.out | apply below_alloc | apply pw_below_drewN | apply below_drew1 | refine below_set ?_ GE364.out | refine below_set ?_ GE378.out) | exact HB.out))⟩; clear HO369 HO372 HO377 HO381 BK364 BK378 HB hq_; have HO369 := n0_; have HO372 := n1_; have HO377 := n2_; have HO381 := n3_; have BK364 := n4_; have BK378 := n5_; have HB := n6_; clear n0_ n1_ n2_ n3_ n4_ n5_ n6_))
                          have n0_ := Aside0.mk (Kd.R_drew HO369.out)
                          have n1_ := Aside0.mk (Kd.R_drew HO372.out)
                          have n2_ := Aside0.mk (Kd.R_drew HO377.out)
                          have n3_ := Aside0.mk (Kd.R_drew HO381.out)
                          have n4_ := Aside0.mk (blk_drew BK364.out)
                          have n5_ := Aside0.mk (blk_drew BK378.out)
                          have n6_ := Aside0.mk (below_drew1 HB.out)
                          clear HO369
                          clear HO372
                          clear HO377
                          clear HO381
                          clear BK364
                          clear BK378
                          clear HB
                          have HO369 := n0_
                          have HO372 := n1_
                          have HO377 := n2_
                          have HO381 := n3_
                          have BK364 := n4_
                          have BK378 := n5_
                          have HB := n6_
                          clear n0_ n1_ n2_ n3_ n4_ n5_ n6_
                          refine start_ (n := 5) (S := fun w' => w'.cell? ⟨gb378, 0, none⟩ = some (.int .i64 t374) ∧ w'.cell? ⟨gb378, 1, none⟩ = some (.slice Ao45 t375.length co45) ∧ w'.cell? ⟨gb364, 0, none⟩ = some (.int .i64 a0_0) ∧ w'.cell? ⟨gb364, 1, none⟩ = some (.slice A0_1 l0_1.length c0_1)) (ds := []) #[false, false, false, false, false] (by kernel_rfl) rfl rfl ⟨(blk_cell BK378.out 0).trans rfl, (blk_cell BK378.out 1).trans rfl, (blk_cell BK364.out 0).trans rfl, (blk_cell BK364.out 1).trans rfl⟩ (fun hHeld => ?_)
                          generalize w46.drew = w49 at HO369 HO372 HO377 HO381 BK364 BK378 HB hHeld ⊢
                          refine take_ (i := 0) (N := some 41) (v := ?_) (a' := ?_) #[true, false, false, false, false] rfl rfl (by kernel_rfl) (fun _ _ _ h => h) (Or.inl ⟨by rfl, ?_⟩) hHeld ?_ ?_
                          rotate_left
                          · rintro w' ⟨s0, s1, s2, s3⟩
                            go_simp
                            with_reducible rfl
                          rotate_left
                          · simp only [Act.put, List.setIfInBounds_toArray, List.set_cons_zero, List.set_cons_succ, i64_w, i32_w]
                            rfl
                          refine take_ (i := 1) (N := some 42) (v := ?_) (a' := ?_) #[true, true, false, false, false] rfl rfl (by kernel_rfl) (fun _ _ _ h => h) (Or.inl ⟨by rfl, ?_⟩) hHeld ?_ ?_
                          rotate_left
                          · rintro w' ⟨s0, s1, s2, s3⟩
                            go_simp
                            with_reducible rfl
                          rotate_left
                          · simp only [Act.put, List.setIfInBounds_toArray, List.set_cons_zero, List.set_cons_succ, i64_w, i32_w]
                            rfl
                          refine one_ (i := 2) (N := some 43) #[true, true, true, false, false] rfl rfl (by kernel_rfl) (by decide) (fun K hK => ?_)
                          refine goes_ Try.func12 (by kernel_rfl) rfl #[.agg #[.int .i64 a0_0, .slice A0_1 l0_1.length c0_1]] (by rfl) rfl rfl (by (try simp only [List.map_toArray, List.map_cons, List.map_nil]); first | done | rfl | (simp only [List.length_drop, List.length_take]; rfl)) ?_
                          with_reducible refine (laws_toLadder.calls k a0_0 _ _ l0_1 t384 t385 _ ?side1 ?side2 A14.out).mono ?_
                          (case side1 => repeat (first | exact (Kd.C_below HR0_1.out HB.out) | (with_reducible refine Kd.C_alloc ?_ _) | (with_reducible refine Kd.C_drewN ?_ _) | (with_reducible refine Kd.C_drew ?_)))
                          (case side2 => exact HC0_1.out)
                          rintro e w50 ⟨v386, rfl, ho0, hb⟩
                          refine ⟨_, rfl, ?_⟩
                          have n0_ := Aside0.mk (Kd.R_elder' (by (with_reducible repeat (first | apply Kd.R_alloc | apply Kd.R_drewN | apply Kd.R_drew)); exact HO369.out) (Kd.R_base ho0) hb)
                          have n1_ := Aside0.mk (Kd.R_elder' (by (with_reducible repeat (first | apply Kd.R_alloc | apply Kd.R_drewN | apply Kd.R_drew)); exact HO372.out) (Kd.R_base ho0) hb)
                          have n2_ := Aside0.mk (Kd.R_elder' (by (with_reducible repeat (first | apply Kd.R_alloc | apply Kd.R_drewN | apply Kd.R_drew)); exact HO377.out) (Kd.R_base ho0) hb)
                          have n3_ := Aside0.mk (Kd.R_elder' (by (with_reducible repeat (first | apply Kd.R_alloc | apply Kd.R_drewN | apply Kd.R_drew)); exact HO381.out) (Kd.R_base ho0) hb)
                          have n4_ := Aside0.mk (Kd.R_lower (Kd.R_new' (Kd.R_new' (Kd.R_new' (Kd.R_new' ho0 (Kd.R_lt (by (with_reducible repeat (first | apply Kd.R_alloc | apply Kd.R_drewN | apply Kd.R_drew)); exact HO369.out))) (Kd.R_lt (by (with_reducible repeat (first | apply Kd.R_alloc | apply Kd.R_drewN | apply Kd.R_drew)); exact HO372.out))) (Kd.R_lt (by (with_reducible repeat (first | apply Kd.R_alloc | apply Kd.R_drewN | apply Kd.R_drew)); exact HO377.out))) (Kd.R_lt (by (with_reducible repeat (first | apply Kd.R_alloc | apply Kd.R_drewN | apply Kd.R_drew)); exact HO381.out))) (below_size (by repeat (first | (with_reducible first | exact HB.out | apply below_alloc | apply pw_below_drewN | apply below_drew1 | refine below_set ?_ GE364.out | refine below_set ?_ GE378.out) | exact HB.out))))
                          have n5_ := Aside0.mk (blk_below (g := gb364) (o := .cells #[.int .i64 a0_0, .slice A0_1 l0_1.length c0_1] 24 (0, 0)) (by (with_reducible repeat (first | refine blk_drewN ?_ _ | refine blk_drew ?_ | refine blk_alloc ?_ _)); exact BK364.out) hb)
                          have n6_ := Aside0.mk (blk_below (g := gb378) (o := .cells #[.int .i64 t374, .slice Ao45 t375.length co45] 28 (0, 0)) (by (with_reducible repeat (first | refine blk_drewN ?_ _ | refine blk_drew ?_ | refine blk_alloc ?_ _)); exact BK378.out) hb)
                          have n7_ := Aside0.mk (below_step (by repeat (first | (with_reducible first | exact HB.out | apply below_alloc | apply pw_below_drewN | apply below_drew1 | refine below_set ?_ GE364.out | refine below_set ?_ GE378.out) | exact HB.out)) hb)
                          clear HO369
                          clear HO372
                          clear HO377
                          clear HO381
                          clear BK364
                          clear BK378
                          clear HB
                          have HO369 := n0_
                          have HO372 := n1_
                          have HO377 := n2_
                          have HO381 := n3_
                          have HO387 := n4_
                          have BK364 := n5_
                          have BK378 := n6_
                          have HB := n7_
                          clear n0_ n1_ n2_ n3_ n4_ n5_ n6_ n7_
                          (try clear hb)
                          (try clear hb2)
                          (try clear hk)
                          (try clear hi)
                          (try clear ho0)
                          obtain ⟨Ao51, co51, eo51⟩ := Kd.R_slice HO387.out
                          (first | subst eo51 | (injection eo51 with f1_ f2_ f3_; have f4_ := f1_.symm; have f5_ := f3_.symm; clear f1_ f2_ f3_; subst f4_; subst f5_))
                          refine hK.out _ _ ⟨(blk_cell BK378.out 0).trans rfl, (blk_cell BK378.out 1).trans rfl, (blk_cell BK364.out 0).trans rfl, (blk_cell BK364.out 1).trans rfl⟩ (fun hHeld => ?_)
                          clear hK K
                          refine norm_ (a' := ?_) ?_ ?_
                          rotate_left
                          · show Act.put _ (some 43) _ = _
                            simp only [Act.put, List.setIfInBounds_toArray, List.set_cons_zero, List.set_cons_succ, i64_w, i32_w]
                            rfl
                          refine one_ (i := 3) (N := some 44) #[true, true, true, true, false] rfl rfl (by kernel_rfl) (by decide) (fun K hK => ?_)
                          refine goes_ Try.func14 (by kernel_rfl) rfl #[.agg #[.int .i64 t374, .slice Ao45 t375.length co45], .agg #[.int .i64 t384, .slice Ao51 t385.length co51]] (by rfl) rfl rfl (by (try simp only [List.map_toArray, List.map_cons, List.map_nil]); first | done | rfl | (simp only [List.length_drop, List.length_take]; rfl)) ?_
                          with_reducible refine (laws_eqLadder.calls k t374 _ _ t375 t384 _ _ t385 true _ ?side1 ?side2 ?side3 ?side4 A15.out).mono ?_
                          (case side1 => repeat (first | exact (Kd.R_reads' HO377.out).2.2 | (with_reducible refine Kd.C_alloc ?_ _) | (with_reducible refine Kd.C_drewN ?_ _) | (with_reducible refine Kd.C_drew ?_)))
                          (case side2 => exact (Kd.R_reads' HO377.out).2.1)
                          (case side3 => repeat (first | exact (Kd.R_reads' HO387.out).2.2 | (with_reducible refine Kd.C_alloc ?_ _) | (with_reducible refine Kd.C_drewN ?_ _) | (with_reducible refine Kd.C_drew ?_)))
                          (case side4 => exact (Kd.R_reads' HO387.out).2.1)
                          rintro e w52 ⟨rfl, hb⟩
                          refine ⟨_, rfl, ?_⟩
                          have n0_ := Aside0.mk (Kd.R_below (by (with_reducible repeat (first | apply Kd.R_alloc | apply Kd.R_drewN | apply Kd.R_drew)); exact HO369.out) hb)
                          have n1_ := Aside0.mk (Kd.R_below (by (with_reducible repeat (first | apply Kd.R_alloc | apply Kd.R_drewN | apply Kd.R_drew)); exact HO372.out) hb)
                          have n2_ := Aside0.mk (Kd.R_below (by (with_reducible repeat (first | apply Kd.R_alloc | apply Kd.R_drewN | apply Kd.R_drew)); exact HO377.out) hb)
                          have n3_ := Aside0.mk (Kd.R_below (by (with_reducible repeat (first | apply Kd.R_alloc | apply Kd.R_drewN | apply Kd.R_drew)); exact HO381.out) hb)
                          have n4_ := Aside0.mk (Kd.R_below (by (with_reducible repeat (first | apply Kd.R_alloc | apply Kd.R_drewN | apply Kd.R_drew)); exact HO387.out) hb)
                          have n5_ := Aside0.mk (blk_below (g := gb364) (o := .cells #[.int .i64 a0_0, .slice A0_1 l0_1.length c0_1] 24 (0, 0)) (by (with_reducible repeat (first | refine blk_drewN ?_ _ | refine blk_drew ?_ | refine blk_alloc ?_ _)); exact BK364.out) hb)
                          have n6_ := Aside0.mk (blk_below (g := gb378) (o := .cells #[.int .i64 t374, .slice Ao45 t375.length co45] 28 (0, 0)) (by (with_reducible repeat (first | refine blk_drewN ?_ _ | refine blk_drew ?_ | refine blk_alloc ?_ _)); exact BK378.out) hb)
                          have n7_ := Aside0.mk (below_step (by repeat (first | (with_reducible first | exact HB.out | apply below_alloc | apply pw_below_drewN | apply below_drew1 | refine below_set ?_ GE364.out | refine below_set ?_ GE378.out) | exact HB.out)) hb)
                          clear HO369
                          clear HO372
                          clear HO377
                          clear HO381
                          clear HO387
                          clear BK364
                          clear BK378
                          clear HB
                          have HO369 := n0_
                          have HO372 := n1_
                          have HO377 := n2_
                          have HO381 := n3_
                          have HO387 := n4_
                          have BK364 := n5_
                          have BK378 := n6_
                          have HB := n7_
                          clear n0_ n1_ n2_ n3_ n4_ n5_ n6_ n7_
                          (try clear hb)
                          (try clear hb2)
                          (try clear hk)
                          (try clear hi)
                          refine hK.out _ _ ⟨(blk_cell BK378.out 0).trans rfl, (blk_cell BK378.out 1).trans rfl, (blk_cell BK364.out 0).trans rfl, (blk_cell BK364.out 1).trans rfl⟩ (fun hHeld => ?_)
                          clear hK K
                          refine norm_ (a' := ?_) ?_ ?_
                          rotate_left
                          · show Act.put _ (some 44) _ = _
                            simp only [Act.put, List.setIfInBounds_toArray, List.set_cons_zero, List.set_cons_succ, i64_w, i32_w]
                            rfl
                          refine pure_ (i := 4) (N := some 45) (v := ?_) (a' := ?_) #[true, true, true, true, true] rfl rfl (by kernel_rfl) (fun _ _ _ h => h) (Or.inl ⟨by rfl, ?_⟩) ?_ ?_
                          rotate_left
                          · intro w'
                            go_simp
                            with_reducible rfl
                          rotate_left
                          · simp only [Act.put, List.setIfInBounds_toArray, List.set_cons_zero, List.set_cons_succ, i64_w, i32_w]
                            rfl
                          refine done_ (by kernel_rfl) ?_
                          have hcz53_0 : w52.cell? ⟨gb378, 0, none⟩ = some (.int .i64 t374) := (blk_cell BK378.out 0).trans rfl
                          have hcz53_1 : w52.cell? ⟨gb378, 1, none⟩ = some (.slice Ao45 t375.length co45) := (blk_cell BK378.out 1).trans rfl
                          have hfz53_0 := blk_frozen BK378.out 0
                          have hfz53_1 := blk_frozen BK378.out 1
                          try go_wp2_with (first | ((with_reducible refine gate_callee (f := 19) rfl ?_); refine goesL_ (some 48) rfl rfl Try.func19 (by kernel_rfl) rfl #[.agg #[.int .i64 t374, .slice Ao45 t375.length co45], .int .i64 1] rfl (by (try simp only [List.map_toArray, List.map_cons, List.map_nil]); first | done | rfl | (simp only [List.length_drop, List.length_take]; rfl)) ?_; (with_reducible refine (laws_markLadder.calls k t374 (fun k_ => some k_ = (.slice Ao45 t375.length co45 : Value).ownBlock) (.slice Ao45 t375.length co45) t375 1 t389 t390 w _ ?side1 ?side2 A17.out).mono ?_); (case side1 => repeat (first | (with_reducible first | exact HB.out | apply below_alloc | apply pw_below_drewN | apply below_drew1 | refine below_set ?_ GE364.out | refine below_set ?_ GE378.out) | exact HB.out)); (case side2 => exact Kd.R_tight rfl HO377.out); rintro e w54 ⟨rfl, hy0, hb, hkp⟩; refine ⟨_, rfl, ?_⟩; have n0_ := Aside0.mk (blk_kept (by (with_reducible repeat (first | refine blk_drewN ?_ _ | refine blk_drew ?_ | refine blk_alloc ?_ _)); exact BK364.out) hkp (fun hs_ => (fun e_ => (Kd.R_ne HO377.out BK364.out (by decide)) e_) hs_)); have n1_ := Aside0.mk (Kd.R_mono (ok' := fun k_ => some k_ ≠ (.slice Ao48 t370.length co48 : Value).ownBlock ∧ some k_ ≠ (.slice Ao45 t375.length co45 : Value).ownBlock ∧ some k_ ≠ (.slice Ao47 t379.length co47 : Value).ownBlock ∧ some k_ ≠ (.slice Ao51 t385.length co51 : Value).ownBlock) (Kd.R_keptB (HO369.out) hkp (fun k_ hk_ hs_ => absurd hs_ (by revert hk_; simp only [and_imp, true_implies]; intros; assumption))) (fun k_ hk_ => by revert hk_; simp only [and_imp, true_implies]; intros; (repeat' apply And.intro) <;> assumption)); have n2_ := Aside0.mk (Kd.R_mono (ok' := fun k_ => some k_ ≠ (.slice Ao38 t367.length co38 : Value).ownBlock ∧ some k_ ≠ (.slice Ao45 t375.length co45 : Value).ownBlock ∧ some k_ ≠ (.slice Ao47 t379.length co47 : Value).ownBlock ∧ some k_ ≠ (.slice Ao51 t385.length co51 : Value).ownBlock) (Kd.R_keptB (HO372.out) hkp (fun k_ hk_ hs_ => absurd hs_ (by revert hk_; simp only [and_imp, true_implies]; intros; assumption))) (fun k_ hk_ => by revert hk_; simp only [and_imp, true_implies]; intros; (repeat' apply And.intro) <;> assumption)); have n3_ := Aside0.mk (Kd.R_reok rfl hy0 (fun k_ e_ => HO377.out.1 k_ e_)); have n4_ := Aside0.mk (blk_kept (by (with_reducible repeat (first | refine blk_drewN ?_ _ | refine blk_drew ?_ | refine blk_alloc ?_ _)); exact BK378.out) hkp (fun hs_ => (fun e_ => (Kd.R_ne HO377.out BK378.out (by decide)) e_) hs_)); have n5_ := Aside0.mk (Kd.R_mono (ok' := fun k_ => some k_ ≠ (.slice Ao38 t367.length co38 : Value).ownBlock ∧ some k_ ≠ (.slice Ao48 t370.length co48 : Value).ownBlock ∧ some k_ ≠ (.slice Ao45 t375.length co45 : Value).ownBlock ∧ some k_ ≠ (.slice Ao51 t385.length co51 : Value).ownBlock) (Kd.R_keptB (HO381.out) hkp (fun k_ hk_ hs_ => absurd hs_ (by revert hk_; simp only [and_imp, true_implies]; intros; assumption))) (fun k_ hk_ => by revert hk_; simp only [and_imp, true_implies]; intros; (repeat' apply And.intro) <;> assumption)); have n6_ := Aside0.mk (Kd.R_mono (ok' := fun k_ => some k_ ≠ (.slice Ao38 t367.length co38 : Value).ownBlock ∧ some k_ ≠ (.slice Ao48 t370.length co48 : Value).ownBlock ∧ some k_ ≠ (.slice Ao45 t375.length co45 : Value).ownBlock ∧ some k_ ≠ (.slice Ao47 t379.length co47 : Value).ownBlock) (Kd.R_keptB (HO387.out) hkp (fun k_ hk_ hs_ => absurd hs_ (by revert hk_; simp only [and_imp, true_implies]; intros; assumption))) (fun k_ hk_ => by revert hk_; simp only [and_imp, true_implies]; intros; (repeat' apply And.intro) <;> assumption)); have n7_ := Aside0.mk (hb); clear BK364; clear HO369; clear HO372; clear HO377; clear BK378; clear HO381; clear HO387; clear HB; have BK364 := n0_; have HO369 := n1_; have HO372 := n2_; have HO377 := n3_; have BK378 := n4_; have HO381 := n5_; have HO387 := n6_; have HB := n7_; clear n0_ n1_ n2_ n3_ n4_ n5_ n6_ n7_; (try clear hb); (try clear hkp); (try clear hy0)) | (go_at_call 18; (with_reducible refine (laws_eqIntS.calls k _ _ t379 _ _ t370 true _ ?side1 ?side2 ?side3 ?side4 A19.out).mono ?_); (case side1 => repeat (first | exact (Kd.R_reads' HO381.out).2.2 | (with_reducible refine Kd.C_alloc ?_ _) | (with_reducible refine Kd.C_drewN ?_ _) | (with_reducible refine Kd.C_drew ?_))); (case side2 => exact (Kd.R_reads' HO381.out).2.1); (case side3 => repeat (first | exact (Kd.R_reads' HO372.out).2.2 | (with_reducible refine Kd.C_alloc ?_ _) | (with_reducible refine Kd.C_drewN ?_ _) | (with_reducible refine Kd.C_drew ?_))); (case side4 => exact (Kd.R_reads' HO372.out).2.1); rintro e w' ⟨rfl, ⟨nd, rfl⟩⟩) | ((with_reducible refine gate_callee (f := 20) rfl ?_); refine goesL_ (some 64) rfl rfl Try.func20 (by kernel_rfl) rfl #[.slice Ao47 t379.length co47, .int .i64 1] rfl (by (try simp only [List.map_toArray, List.map_cons, List.map_nil]); first | done | rfl | (simp only [List.length_drop, List.length_take]; rfl)) ?_; (with_reducible refine (laws_markIntS.calls k (fun k_ => some k_ = (.slice Ao47 t379.length co47 : Value).ownBlock) (.slice Ao47 t379.length co47) t379 1 t392 t393 w _ ?side1 ?side2 A21.out).mono ?_); (case side1 => repeat (first | (with_reducible first | exact HB.out | apply below_alloc | apply pw_below_drewN | apply below_drew1 | refine below_set ?_ GE364.out | refine below_set ?_ GE378.out) | exact HB.out)); (case side2 => exact Kd.R_tight rfl HO381.out); rintro e w55 ⟨rfl, hy0, hb, hkp⟩; refine ⟨_, rfl, ?_⟩; have n0_ := Aside0.mk (blk_kept (by (with_reducible repeat (first | refine blk_drewN ?_ _ | refine blk_drew ?_ | refine blk_alloc ?_ _)); exact BK364.out) hkp (fun hs_ => (fun e_ => (Kd.R_ne HO381.out BK364.out (by decide)) e_) hs_)); have n1_ := Aside0.mk (Kd.R_mono (ok' := fun k_ => some k_ ≠ (.slice Ao48 t370.length co48 : Value).ownBlock ∧ some k_ ≠ (.slice Ao45 t375.length co45 : Value).ownBlock ∧ some k_ ≠ (.slice Ao47 t379.length co47 : Value).ownBlock ∧ some k_ ≠ (.slice Ao51 t385.length co51 : Value).ownBlock) (Kd.R_keptB (HO369.out) hkp (fun k_ hk_ hs_ => absurd hs_ (by revert hk_; simp only [and_imp, true_implies]; intros; assumption))) (fun k_ hk_ => by revert hk_; simp only [and_imp, true_implies]; intros; (repeat' apply And.intro) <;> assumption)); have n2_ := Aside0.mk (Kd.R_mono (ok' := fun k_ => some k_ ≠ (.slice Ao38 t367.length co38 : Value).ownBlock ∧ some k_ ≠ (.slice Ao45 t375.length co45 : Value).ownBlock ∧ some k_ ≠ (.slice Ao47 t379.length co47 : Value).ownBlock ∧ some k_ ≠ (.slice Ao51 t385.length co51 : Value).ownBlock) (Kd.R_keptB (HO372.out) hkp (fun k_ hk_ hs_ => absurd hs_ (by revert hk_; simp only [and_imp, true_implies]; intros; assumption))) (fun k_ hk_ => by revert hk_; simp only [and_imp, true_implies]; intros; (repeat' apply And.intro) <;> assumption)); have n3_ := Aside0.mk (Kd.R_mono (ok' := fun k_ => some k_ ≠ (.slice Ao38 t367.length co38 : Value).ownBlock ∧ some k_ ≠ (.slice Ao48 t370.length co48 : Value).ownBlock ∧ some k_ ≠ (.slice Ao47 t379.length co47 : Value).ownBlock ∧ some k_ ≠ (.slice Ao51 t385.length co51 : Value).ownBlock) (Kd.R_keptB (HO377.out) hkp (fun k_ hk_ hs_ => absurd hs_ (by revert hk_; simp only [and_imp, true_implies]; intros; assumption))) (fun k_ hk_ => by revert hk_; simp only [and_imp, true_implies]; intros; (repeat' apply And.intro) <;> assumption)); have n4_ := Aside0.mk (blk_kept (by (with_reducible repeat (first | refine blk_drewN ?_ _ | refine blk_drew ?_ | refine blk_alloc ?_ _)); exact BK378.out) hkp (fun hs_ => (fun e_ => (Kd.R_ne HO381.out BK378.out (by decide)) e_) hs_)); have n5_ := Aside0.mk (Kd.R_reok rfl hy0 (fun k_ e_ => HO381.out.1 k_ e_)); have n6_ := Aside0.mk (Kd.R_mono (ok' := fun k_ => some k_ ≠ (.slice Ao38 t367.length co38 : Value).ownBlock ∧ some k_ ≠ (.slice Ao48 t370.length co48 : Value).ownBlock ∧ some k_ ≠ (.slice Ao45 t375.length co45 : Value).ownBlock ∧ some k_ ≠ (.slice Ao47 t379.length co47 : Value).ownBlock) (Kd.R_keptB (HO387.out) hkp (fun k_ hk_ hs_ => absurd hs_ (by revert hk_; simp only [and_imp, true_implies]; intros; assumption))) (fun k_ hk_ => by revert hk_; simp only [and_imp, true_implies]; intros; (repeat' apply And.intro) <;> assumption)); have n7_ := Aside0.mk (hb); clear BK364; clear HO369; clear HO372; clear HO377; clear BK378; clear HO381; clear HO387; clear HB; have BK364 := n0_; have HO369 := n1_; have HO372 := n2_; have HO377 := n3_; have BK378 := n4_; have HO381 := n5_; have HO387 := n6_; have HB := n7_; clear n0_ n1_ n2_ n3_ n4_ n5_ n6_ n7_; (try clear hb); (try clear hkp); (try clear hy0)) | ((with_reducible refine gate_callee (f := 30) rfl ?_); refine goesL_ (some 67) rfl rfl Try.func30 (by kernel_rfl) rfl #[.slice Ao47 t393.length co47, .int .i64 1] rfl (by (try simp only [List.map_toArray, List.map_cons, List.map_nil]); first | done | (rw [show t393.length = t379.length from (Kd.R_reads' HO381.out).1.symm] <;> rfl) | rfl | (simp only [List.length_drop, List.length_take]; rfl)) ?_; (with_reducible refine (laws_heldIntS.calls k _ _ t393 1 t394 _ ?side1 ?side2 A22.out).mono ?_); (case side1 => repeat (first | exact (Kd.R_reads' HO381.out).2.2 | (with_reducible refine Kd.C_alloc ?_ _) | (with_reducible refine Kd.C_drewN ?_ _) | (with_reducible refine Kd.C_drew ?_))); (case side2 => rw [show t393.length = t379.length from (Kd.R_reads' HO381.out).1.symm]; exact (Kd.R_reads' HO381.out).2.1); rintro e w' ⟨rfl, ⟨nd, rfl⟩⟩; refine ⟨_, rfl, ?_⟩; have hcz56_0 : w55.cell? ⟨gb364, 0, none⟩ = some (.int .i64 a0_0) := (blk_cell BK364.out 0).trans rfl; have hcz56_1 : w55.cell? ⟨gb364, 1, none⟩ = some (.slice A0_1 l0_1.length c0_1) := (blk_cell BK364.out 1).trans rfl; have hfz56_0 := blk_frozen BK364.out 0; have hfz56_1 := blk_frozen BK364.out 1) | ((with_reducible refine gate_callee (f := 12) rfl ?_); refine goesL_ (some 75) rfl rfl Try.func12 (by kernel_rfl) rfl #[.agg #[.int .i64 a0_0, .slice A0_1 l0_1.length c0_1]] rfl (by (try simp only [List.map_toArray, List.map_cons, List.map_nil]); first | done | rfl | (simp only [List.length_drop, List.length_take]; rfl)) ?_; (with_reducible refine (laws_toLadder.calls k a0_0 _ _ l0_1 t395 t396 _ ?side1 ?side2 A25.out).mono ?_); (case side1 => repeat (first | exact (Kd.C_below HR0_1.out (by repeat (first | (with_reducible first | exact HB.out | apply below_alloc | apply pw_below_drewN | apply below_drew1 | refine below_set ?_ GE364.out | refine below_set ?_ GE378.out) | exact HB.out))) | (with_reducible refine Kd.C_alloc ?_ _) | (with_reducible refine Kd.C_drewN ?_ _) | (with_reducible refine Kd.C_drew ?_))); (case side2 => exact HC0_1.out); rintro e w57 ⟨v397, rfl, ho0, hb⟩; refine ⟨_, rfl, ?_⟩; have n0_ := Aside0.mk (Kd.R_elder' (by (with_reducible repeat (first | apply Kd.R_alloc | apply Kd.R_drewN | apply Kd.R_drew)); exact HO369.out) (Kd.R_base ho0) hb); have n1_ := Aside0.mk (Kd.R_elder' (by (with_reducible repeat (first | apply Kd.R_alloc | apply Kd.R_drewN | apply Kd.R_drew)); exact HO372.out) (Kd.R_base ho0) hb); have n2_ := Aside0.mk (Kd.R_elder' (by (with_reducible repeat (first | apply Kd.R_alloc | apply Kd.R_drewN | apply Kd.R_drew)); exact HO377.out) (Kd.R_base ho0) hb); have n3_ := Aside0.mk (Kd.R_elder' (by (with_reducible repeat (first | apply Kd.R_alloc | apply Kd.R_drewN | apply Kd.R_drew)); exact HO381.out) (Kd.R_base ho0) hb); have n4_ := Aside0.mk (Kd.R_elder' (by (with_reducible repeat (first | apply Kd.R_alloc | apply Kd.R_drewN | apply Kd.R_drew)); exact HO387.out) (Kd.R_base ho0) hb); have n5_ := Aside0.mk (Kd.R_lower (Kd.R_new' (Kd.R_new' (Kd.R_new' (Kd.R_new' (Kd.R_new' ho0 (Kd.R_lt (by (with_reducible repeat (first | apply Kd.R_alloc | apply Kd.R_drewN | apply Kd.R_drew)); exact HO369.out))) (Kd.R_lt (by (with_reducible repeat (first | apply Kd.R_alloc | apply Kd.R_drewN | apply Kd.R_drew)); exact HO372.out))) (Kd.R_lt (by (with_reducible repeat (first | apply Kd.R_alloc | apply Kd.R_drewN | apply Kd.R_drew)); exact HO377.out))) (Kd.R_lt (by (with_reducible repeat (first | apply Kd.R_alloc | apply Kd.R_drewN | apply Kd.R_drew)); exact HO381.out))) (Kd.R_lt (by (with_reducible repeat (first | apply Kd.R_alloc | apply Kd.R_drewN | apply Kd.R_drew)); exact HO387.out))) (below_size (by repeat (first | (with_reducible first | exact HB.out | apply below_alloc | apply pw_below_drewN | apply below_drew1 | refine below_set ?_ GE364.out | refine below_set ?_ GE378.out) | exact HB.out)))); have n6_ := Aside0.mk (blk_below (g := gb364) (o := .cells #[.int .i64 a0_0, .slice A0_1 l0_1.length c0_1] 24 (0, 0)) (by (with_reducible repeat (first | refine blk_drewN ?_ _ | refine blk_drew ?_ | refine blk_alloc ?_ _)); exact BK364.out) hb); have n7_ := Aside0.mk (blk_below (g := gb378) (o := .cells #[.int .i64 t374, .slice Ao45 t375.length co45] 28 (0, 0)) (by (with_reducible repeat (first | refine blk_drewN ?_ _ | refine blk_drew ?_ | refine blk_alloc ?_ _)); exact BK378.out) hb); have n8_ := Aside0.mk (below_step (by repeat (first | (with_reducible first | exact HB.out | apply below_alloc | apply pw_below_drewN | apply below_drew1 | refine below_set ?_ GE364.out | refine below_set ?_ GE378.out) | exact HB.out)) hb); clear HO369; clear HO372; clear HO377; clear HO381; clear HO387; clear BK364; clear BK378; clear HB; have HO369 := n0_; have HO372 := n1_; have HO377 := n2_; have HO381 := n3_; have HO387 := n4_; have HO398 := n5_; have BK364 := n6_; have BK378 := n7_; have HB := n8_; clear n0_ n1_ n2_ n3_ n4_ n5_ n6_ n7_ n8_; (try clear hb); (try clear hb2); (try clear hk); (try clear hi); (try clear ho0); obtain ⟨Ao58, co58, eo58⟩ := Kd.R_slice HO398.out; subst eo58) | ((with_reducible refine gate_callee (f := 29) rfl ?_); refine goesL_ (some 76) rfl rfl Try.func29 (by kernel_rfl) rfl #[.agg #[.int .i64 t395, .slice Ao58 t396.length co58]] rfl (by (try simp only [List.map_toArray, List.map_cons, List.map_nil]); first | done | rfl | (simp only [List.length_drop, List.length_take]; rfl)) ?_; (with_reducible refine (impl_GoodTakes.calls k t395 _ _ t396 t399 t402 _ ?side1 ?side2 A26.out).mono ?_); (case side1 => repeat (first | exact (Kd.R_reads' HO398.out).2.2 | (with_reducible refine Kd.C_alloc ?_ _) | (with_reducible refine Kd.C_drewN ?_ _) | (with_reducible refine Kd.C_drew ?_))); (case side2 => exact (Kd.R_reads' HO398.out).2.1); rintro e w59 ⟨v400, rfl, ho0, hb⟩; refine ⟨_, rfl, ?_⟩; have n0_ := Aside0.mk (Kd.R_elder' (by (with_reducible repeat (first | apply Kd.R_alloc | apply Kd.R_drewN | apply Kd.R_drew)); exact HO369.out) (Kd.R_base ho0) hb); have n1_ := Aside0.mk (Kd.R_elder' (by (with_reducible repeat (first | apply Kd.R_alloc | apply Kd.R_drewN | apply Kd.R_drew)); exact HO372.out) (Kd.R_base ho0) hb); have n2_ := Aside0.mk (Kd.R_elder' (by (with_reducible repeat (first | apply Kd.R_alloc | apply Kd.R_drewN | apply Kd.R_drew)); exact HO377.out) (Kd.R_base ho0) hb); have n3_ := Aside0.mk (Kd.R_elder' (by (with_reducible repeat (first | apply Kd.R_alloc | apply Kd.R_drewN | apply Kd.R_drew)); exact HO381.out) (Kd.R_base ho0) hb); have n4_ := Aside0.mk (Kd.R_elder' (by (with_reducible repeat (first | apply Kd.R_alloc | apply Kd.R_drewN | apply Kd.R_drew)); exact HO387.out) (Kd.R_base ho0) hb); have n5_ := Aside0.mk (Kd.R_elder' (by (with_reducible repeat (first | apply Kd.R_alloc | apply Kd.R_drewN | apply Kd.R_drew)); exact HO398.out) (Kd.R_base ho0) hb); have n6_ := Aside0.mk (Kd.R_lower (Kd.R_new' (Kd.R_new' (Kd.R_new' (Kd.R_new' (Kd.R_new' (Kd.R_new' ho0 (Kd.R_lt (by (with_reducible repeat (first | apply Kd.R_alloc | apply Kd.R_drewN | apply Kd.R_drew)); exact HO369.out))) (Kd.R_lt (by (with_reducible repeat (first | apply Kd.R_alloc | apply Kd.R_drewN | apply Kd.R_drew)); exact HO372.out))) (Kd.R_lt (by (with_reducible repeat (first | apply Kd.R_alloc | apply Kd.R_drewN | apply Kd.R_drew)); exact HO377.out))) (Kd.R_lt (by (with_reducible repeat (first | apply Kd.R_alloc | apply Kd.R_drewN | apply Kd.R_drew)); exact HO381.out))) (Kd.R_lt (by (with_reducible repeat (first | apply Kd.R_alloc | apply Kd.R_drewN | apply Kd.R_drew)); exact HO387.out))) (Kd.R_lt (by (with_reducible repeat (first | apply Kd.R_alloc | apply Kd.R_drewN | apply Kd.R_drew)); exact HO398.out))) (below_size (by repeat (first | (with_reducible first | exact HB.out | apply below_alloc | apply pw_below_drewN | apply below_drew1 | refine below_set ?_ GE364.out | refine below_set ?_ GE378.out) | exact HB.out)))); have n7_ := Aside0.mk (blk_below (g := gb364) (o := .cells #[.int .i64 a0_0, .slice A0_1 l0_1.length c0_1] 24 (0, 0)) (by (with_reducible repeat (first | refine blk_drewN ?_ _ | refine blk_drew ?_ | refine blk_alloc ?_ _)); exact BK364.out) hb); have n8_ := Aside0.mk (blk_below (g := gb378) (o := .cells #[.int .i64 t374, .slice Ao45 t375.length co45] 28 (0, 0)) (by (with_reducible repeat (first | refine blk_drewN ?_ _ | refine blk_drew ?_ | refine blk_alloc ?_ _)); exact BK378.out) hb); have n9_ := Aside0.mk (below_step (by repeat (first | (with_reducible first | exact HB.out | apply below_alloc | apply pw_below_drewN | apply below_drew1 | refine below_set ?_ GE364.out | refine below_set ?_ GE378.out) | exact HB.out)) hb); clear HO369; clear HO372; clear HO377; clear HO381; clear HO387; clear HO398; clear BK364; clear BK378; clear HB; have HO369 := n0_; have HO372 := n1_; have HO377 := n2_; have HO381 := n3_; have HO387 := n4_; have HO398 := n5_; have HO401 := n6_; have BK364 := n7_; have BK378 := n8_; have HB := n9_; clear n0_ n1_ n2_ n3_ n4_ n5_ n6_ n7_ n8_ n9_; (try clear hb); (try clear hb2); (try clear hk); (try clear hi); (try clear ho0); obtain ⟨Ao60, co60, eo60⟩ := Kd.R_slice HO401.out; subst eo60) | ((with_reducible refine gate_callee (f := 18) rfl ?_); refine goesL_ (some 81) rfl rfl Try.func18 (by kernel_rfl) rfl #[.slice Ao60 t399.length co60, .slice Ao48 t370.length co48] rfl (by (try simp only [List.map_toArray, List.map_cons, List.map_nil]); first | done | rfl | (simp only [List.length_drop, List.length_take]; rfl)) ?_; (with_reducible refine (laws_eqIntS.calls k _ _ t399 _ _ t370 true _ ?side1 ?side2 ?side3 ?side4 A27.out).mono ?_); (case side1 => repeat (first | exact (Kd.R_reads' HO401.out).2.2 | (with_reducible refine Kd.C_alloc ?_ _) | (with_reducible refine Kd.C_drewN ?_ _) | (with_reducible refine Kd.C_drew ?_))); (case side2 => exact (Kd.R_reads' HO401.out).2.1); (case side3 => repeat (first | exact (Kd.R_reads' HO372.out).2.2 | (with_reducible refine Kd.C_alloc ?_ _) | (with_reducible refine Kd.C_drewN ?_ _) | (with_reducible refine Kd.C_drew ?_))); (case side4 => exact (Kd.R_reads' HO372.out).2.1); rintro e w' ⟨rfl, ⟨nd, rfl⟩⟩; refine ⟨_, rfl, ?_⟩) | ((with_reducible refine gate_callee (f := 30) rfl ?_); refine goesL_ (some 90) rfl rfl Try.func30 (by kernel_rfl) rfl #[.slice Ao47 t393.length co47, .int .i64 1] rfl (by (try simp only [List.map_toArray, List.map_cons, List.map_nil]); first | done | (rw [show t393.length = t379.length from (Kd.R_reads' HO381.out).1.symm] <;> rfl) | rfl | (simp only [List.length_drop, List.length_take]; rfl)) ?_; (with_reducible refine (laws_heldIntS.calls k _ _ t393 1 t404 _ ?side1 ?side2 A30.out).mono ?_); (case side1 => repeat (first | exact (Kd.R_reads' HO381.out).2.2 | (with_reducible refine Kd.C_alloc ?_ _) | (with_reducible refine Kd.C_drewN ?_ _) | (with_reducible refine Kd.C_drew ?_))); (case side2 => rw [show t393.length = t379.length from (Kd.R_reads' HO381.out).1.symm]; exact (Kd.R_reads' HO381.out).2.1); rintro e w' ⟨rfl, ⟨nd, rfl⟩⟩; refine ⟨_, rfl, ?_⟩))
                          go_ret
                          exact ⟨by first | rfl | (simp [errW_none, errW_some] <;> rfl) | (simp [*, errW_none, errW_some] <;> rfl), by repeat (first | (with_reducible first | exact HB.out | apply below_alloc | apply pw_below_drewN | apply below_drew1 | refine below_set ?_ GE364.out | refine below_set ?_ GE378.out) | exact HB.out)⟩
                        · rw [if_neg c32] at H
                          exact absurd H (by simp)
                  · replace c28 := Bool.eq_false_iff.mpr c28
                    subst c28
                    have H1 : (none) = some r := by rw [if_neg (show ¬ (false = true) by decide)] at H; exact H
                    clear H
                    have H := H1
                    clear H1
                    exact absurd H (by simp)
                · rw [if_neg c24] at H
                  exact absurd H (by simp)
            · replace c20 := Bool.eq_false_iff.mpr c20
              subst c20
              have H1 : (none) = some r := by rw [if_neg (show ¬ (false = true) by decide)] at H; exact H
              clear H
              have H := H1
              clear H1
              exact absurd H (by simp)
        · replace c16 := Bool.eq_false_iff.mpr c16
          subst c16
          have H1 : (none) = some r := by rw [if_neg (show ¬ (false = true) by decide)] at H; exact H
          clear H
          have H := H1
          clear H1
          exact absurd H (by simp)
    · replace c12 := Bool.eq_false_iff.mpr c12
      subst c12
      have H1 : (none) = some r := by rw [if_neg (show ¬ (false = true) by decide)] at H; exact H
      clear H
      have H := H1
      clear H1
      exact absurd H (by simp)

end Go.Proofs.Ytnmhokkkjpjmeaa.B
