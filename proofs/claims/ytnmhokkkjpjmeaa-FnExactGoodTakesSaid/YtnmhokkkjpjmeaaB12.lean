/- The walks of functions of the given program and of its reference: each call of the machine returns what the plain Lean function of the same name says. Conditions: those in each statement. (Written by this session's program over the kit's print.) -/
import Derived.Test.YtnmhokkkjpjmeaaB0
import Derived.Test.YtnmhokkkjpjmeaaB1
import Derived.Test.YtnmhokkkjpjmeaaB5
import Derived.Test.YtnmhokkkjpjmeaaB7
namespace Go.Proofs.Ytnmhokkkjpjmeaa.B
open Go.RowKit Go.Proofs.YtnmhokkkjpjmeaaW.PrintWords Go.Proofs.YtnmhokkkjpjmeaaW.PrintLast Go.Proofs.YtnmhokkkjpjmeaaW.PrintMore
attribute [local go_sem] max2_int min2_int max_two min_two max_three min_three max_four min_four   -- for this text's walks alone
set_option linter.unusedVariables false
set_option linter.unusedSimpArgs false

/-! ### spec_gaTakes_best: function 49 -/
def gbGo (hs : List Bool) (ls : List Int) (s : Nat) (wt : Int) : Nat → Nat → Int
  | 0, _ => -1
  | d + 1, i => if s / 2 ^ i % 2 = 0 then gbGo hs ls s wt d (i + 1)
    else if (hs.getD (s - 2 ^ i) false = true ∧ wt = 1) ∨ (hs.getD (s - 2 ^ i) false = false ∧ ((1 < wt ∧ ls.getD (s - 2 ^ i) 0 = wrap64 (1 - wt)) ∨ (wt < 0 ∧ ls.getD (s - 2 ^ i) 0 = wrap64 (wrap64 (-wt) - 1)))) then (i : Int) else gbGo hs ls s wt d (i + 1)
def gbF (n : Nat) (hs : List Bool) (ls : List Int) (s : Nat) : Int := gbGo hs ls s (ls.getD s 0) n 0
set_option maxHeartbeats 4000000 in
set_option maxRecDepth 100000 in
theorem gb_calls (a : Int) (A0 : Option Addr) (c0 : Nat) (l : List Int) (g gh gl N : Nat) (hs : List Bool) (ls : List Int) (s : Nat) (w : World) (hn : l.length ≤ 12) (hN : N ≤ 4096) (hsN : s < N) (hg : GaB A0 c0 a l g gh gl N hs ls w) :
    Calls Try.prog 49 #[.pointer (some ⟨g, 0, none⟩), .int .i64 (s : Int)] w fun e w' => e = .returned (.int .i64 (gbF l.length hs ls s)) ∧ Drawn0 w w' := by
  have hu28 := Try.underlying28
  have hu58 := Try.underlying58
  obtain ⟨r, hr⟩ : ∃ r, r = gbF l.length hs ls s := ⟨_, rfl⟩
  rw [← hr]
  unfold gbF at hr
  obtain ⟨wt, hwt⟩ : ∃ wt, wt = ls.getD s 0 := ⟨_, rfl⟩
  rw [← hwt] at hr
  have HQ := Aside0.mk hr.symm
  have HWT := Lib.hid hwt
  have HN := Lib.hid hN
  have HN12 := Lib.hid hn
  have HSN := Lib.hid hsN
  have HG := Aside0.mk hg
  have HD := Aside0.mk (Drawn0.refl w)
  have hg1 : w.cell? ⟨g, 1, none⟩ = some (.slice A0 l.length c0) := (blk_cell hg.1 1).trans rfl
  clear hr hwt hN hn hsN hg
  go_enter Try.func49, Try.ntmps49
  go_wp2
  clear hg1
  go_loopg [14] l.length (fun gg v14 wr => ∃ (d i : Nat), d ≤ gg ∧ i + d = l.length ∧ v14 = .int .i64 (i : Int) ∧ Aside0 (gbGo hs ls s wt d i = r) ∧ Aside0 (GaB A0 c0 a l g gh gl N hs ls wr) ∧ Aside0 (Drawn0 w wr))
  case atStart => exact ⟨l.length, 0, Nat.le_refl _, Nat.zero_add _, rfl, HQ, HG, HD⟩
  case round =>
    clear HG HD HQ
    obtain ⟨d, i, hgg, hid, rfl, HQ, HG, HD⟩ := hrel
    have hq := HQ.out
    cases d with
    | zero =>
      have d1 : decide (i < l.length) = false := decide_eq_false (by omega)
      rw [gbGo] at hq
      have HQ2 := Aside0.mk hq
      clear hgg hid hq HQ
      go_wp2
      go_ret
      exact ⟨by rw [← HQ2.out]; rfl, HD.out⟩
    | succ d =>
      rw [gbGo] at hq
      have d1 : decide (i < l.length) = true := decide_eq_true (by omega)
      have HI12 := Lib.hid (show i < 12 by have := HN12.out; omega)
      have HGG := Lib.hid hgg
      have HID := Lib.hid hid
      have HWJ := Lib.hid (show wrap64 ((i : Int) + 1) = ((i + 1 : Nat) : Int) by have := HI12.out; unfold wrap64; omega)
      clear hgg hid HQ
      have hg2 : wr.cell? ⟨g, 2, none⟩ = some (.slice (some ⟨gh, 0, none⟩) N N) := (blk_cell HG.out.1 2).trans rfl
      have hg3 : wr.cell? ⟨g, 3, none⟩ = some (.slice (some ⟨gl, 0, none⟩) N N) := (blk_cell HG.out.1 3).trans rfl
      have hcw := HG.out.atL s HSN.out
      rw [← HWT.out] at hcw
      have p1 : 0 ≤ ((s : Nat) : Int) := by omega
      have q1 : ((s : Nat) : Int) < (N : Int) := by have := HSN.out; omega
      replace p1 := eq_true p1
      replace q1 := eq_true q1
      have e23 : ((s : Int) / 2 ^ min i 64) = ((s / 2 ^ i : Nat) : Int) := by rw [Nat.min_eq_left (by have := HI12.out; omega)]; push_cast; rfl
      obtain ⟨x2, hx2⟩ : ∃ x2, x2 = s / 2 ^ i := ⟨_, rfl⟩
      rw [← hx2] at e23
      have HX2 := Lib.hid hx2
      clear hx2
      by_cases hbz : x2 % 2 = 0
      · have t1 : ((x2 : Int) % 2 == 0) = true := by
          have : (x2 : Int) % 2 = 0 := by omega
          simp [this]
        rw [if_pos (by rw [← HX2.out]; exact hbz)] at hq
        have HQ2 := Aside0.mk hq
        clear hbz hq
        go_wp2
        go_roundg d
        case measure => have := HGG.out; omega
        case rel => exact ⟨d, i + 1, Nat.le_refl _, by have := HID.out; omega, by rw [← HWJ.out], HQ2, HG, HD⟩
      · have t1 : ((x2 : Int) % 2 == 0) = false := by
          have : (x2 : Int) % 2 = 1 := by omega
          simp [this]
        have hbz2 : ¬ s / 2 ^ i % 2 = 0 := by rw [← HX2.out]; exact hbz
        rw [if_neg hbz2] at hq
        have ec := clrI_eq s i (Nat.lt_of_lt_of_le HSN.out HN.out) HI12.out hbz2
        rw [← show min i 64 = i from Nat.min_eq_left (by have := HI12.out; clear ec e23; omega)] at ec
        rw [show s - 2 ^ min i 64 = s - 2 ^ i by rw [Nat.min_eq_left (by have := HI12.out; clear ec e23; omega)]] at ec
        obtain ⟨t, ht⟩ : ∃ t, t = s - 2 ^ i := ⟨_, rfl⟩
        rw [← ht] at ec hq
        have htN : t < N := by rw [ht]; exact Nat.lt_of_le_of_lt (Nat.sub_le _ _) HSN.out
        have hch := HG.out.atH t htN
        have hcl := HG.out.atL t htN
        have p2 : 0 ≤ ((t : Nat) : Int) := by clear ec e23; omega
        have q2 : ((t : Nat) : Int) < (N : Int) := by clear ec e23; omega
        replace p2 := eq_true p2
        replace q2 := eq_true q2
        obtain ⟨hv, hhv⟩ : ∃ hv, hv = hs.getD t false := ⟨_, rfl⟩
        obtain ⟨lv, hlv⟩ : ∃ lv, lv = ls.getD t 0 := ⟨_, rfl⟩
        rw [← hhv] at hch
        rw [← hlv] at hcl
        rw [← hhv, ← hlv] at hq
        clear hbz hbz2 hhv hlv ht htN
        have w1_ : wrap64 (1 - wt) = wrap64 (1 - wt) := rfl
        clear w1_
        cases hv0 : hv with
        | true =>
          subst hv0
          by_cases h1 : wt = 1
          · have u1 : (wt == 1) = true := by simp [h1]
            rw [if_pos (Or.inl ⟨rfl, h1⟩)] at hq
            have HQ2 := Aside0.mk hq
            clear hq h1
            go_wp2
            go_ret
            exact ⟨by rw [← HQ2.out]; rfl, HD.out⟩
          · have u1 : (wt == 1) = false := by simp [h1]
            rw [if_neg (fun h => h.elim (fun h => h1 h.2) (fun h => by cases h.1))] at hq
            have HQ2 := Aside0.mk hq
            clear hq
            by_cases h2 : 1 < wt
            · have u2 : decide (1 < wt) = true := decide_eq_true h2
              have u3 : decide (wt < 0) = false := decide_eq_false (by omega)
              clear h1 h2
              go_wp2
              go_roundg d
              case measure => have := HGG.out; omega
              case rel => exact ⟨d, i + 1, Nat.le_refl _, by have := HID.out; omega, by rw [← HWJ.out], HQ2, HG, HD⟩
            · have u2 : decide (1 < wt) = false := decide_eq_false h2
              by_cases h3 : wt < 0
              · have u3 : decide (wt < 0) = true := decide_eq_true h3
                clear h1 h2 h3
                go_wp2
                go_roundg d
                case measure => have := HGG.out; omega
                case rel => exact ⟨d, i + 1, Nat.le_refl _, by have := HID.out; omega, by rw [← HWJ.out], HQ2, HG, HD⟩
              · have u3 : decide (wt < 0) = false := decide_eq_false h3
                clear h1 h2 h3
                go_wp2
                go_roundg d
                case measure => have := HGG.out; omega
                case rel => exact ⟨d, i + 1, Nat.le_refl _, by have := HID.out; omega, by rw [← HWJ.out], HQ2, HG, HD⟩
        | false =>
          subst hv0
          by_cases h2 : 1 < wt
          · have u1 : (wt == 1) = false := by
              have : wt ≠ 1 := by omega
              simp [this]
            have u2 : decide (1 < wt) = true := decide_eq_true h2
            have u3 : decide (wt < 0) = false := decide_eq_false (by omega)
            by_cases h4 : lv = wrap64 (1 - wt)
            · have u4 : (lv == wrap64 (1 - wt)) = true := by simp [h4]
              rw [if_pos (Or.inr ⟨rfl, Or.inl ⟨h2, h4⟩⟩)] at hq
              have HQ2 := Aside0.mk hq
              clear hq h2 h4
              go_wp2
              go_ret
              exact ⟨by rw [← HQ2.out]; rfl, HD.out⟩
            · have u4 : (lv == wrap64 (1 - wt)) = false := by simp [h4]
              rw [if_neg (fun h => h.elim (fun h => by cases h.1) (fun h => h.2.elim (fun h => h4 h.2) (fun h => by omega)))] at hq
              have HQ2 := Aside0.mk hq
              clear hq h2 h4
              go_wp2
              go_roundg d
              case measure => have := HGG.out; omega
              case rel => exact ⟨d, i + 1, Nat.le_refl _, by have := HID.out; omega, by rw [← HWJ.out], HQ2, HG, HD⟩
          · have u2 : decide (1 < wt) = false := decide_eq_false h2
            by_cases h3 : wt < 0
            · have u1 : (wt == 1) = false := by
                have : wt ≠ 1 := by omega
                simp [this]
              have u3 : decide (wt < 0) = true := decide_eq_true h3
              by_cases h4 : lv = wrap64 (wrap64 (-wt) - 1)
              · have u4 : (lv == wrap64 (wrap64 (-wt) - 1)) = true := by simp [h4]
                rw [if_pos (Or.inr ⟨rfl, Or.inr ⟨h3, h4⟩⟩)] at hq
                have HQ2 := Aside0.mk hq
                clear hq h2 h3 h4
                go_wp2
                go_ret
                exact ⟨by rw [← HQ2.out]; rfl, HD.out⟩
              · have u4 : (lv == wrap64 (wrap64 (-wt) - 1)) = false := by simp [h4]
                rw [if_neg (fun h => h.elim (fun h => by cases h.1) (fun h => h.2.elim (fun h => h2 h.1) (fun h => h4 h.2)))] at hq
                have HQ2 := Aside0.mk hq
                clear hq h2 h3 h4
                go_wp2
                go_roundg d
                case measure => have := HGG.out; omega
                case rel => exact ⟨d, i + 1, Nat.le_refl _, by have := HID.out; omega, by rw [← HWJ.out], HQ2, HG, HD⟩
            · have u3 : decide (wt < 0) = false := decide_eq_false h3
              rw [if_neg (fun h => h.elim (fun h => by cases h.1) (fun h => h.2.elim (fun h => h2 h.1) (fun h => h3 h.1)))] at hq
              have HQ2 := Aside0.mk hq
              clear hq
              by_cases h1 : wt = 1
              · have u1 : (wt == 1) = true := by simp [h1]
                clear h1 h2 h3
                go_wp2
                go_roundg d
                case measure => have := HGG.out; omega
                case rel => exact ⟨d, i + 1, Nat.le_refl _, by have := HID.out; omega, by rw [← HWJ.out], HQ2, HG, HD⟩
              · have u1 : (wt == 1) = false := by simp [h1]
                clear h1 h2 h3
                go_wp2
                go_roundg d
                case measure => have := HGG.out; omega
                case rel => exact ⟨d, i + 1, Nat.le_refl _, by have := HID.out; omega, by rw [← HWJ.out], HQ2, HG, HD⟩


/-! ### spec_TakeLine: function 31 -/
def glGo (n : Nat) (hs : List Bool) (ls : List Int) : Nat → Nat → Option (List Int)
  | 0, _ => none
  | d + 1, s => if hs.getD s false = true then some [] else if 0 ≤ gbF n hs ls s ∧ gbF n hs ls s < 12 ∧ ¬ s / 2 ^ (gbF n hs ls s).toNat % 2 = 0 then (glGo n hs ls d (s - 2 ^ (gbF n hs ls s).toNat)).bind fun r => some (gbF n hs ls s :: r) else none
def spec_TakeLine.f (k : Nat) (a : Int) (l : List Int) : Option (List Int × Bool) := (spec_gaTaking.f k a l).bind fun t => if t = true then (gaNewF k a l).bind fun p => (glGo l.length p.1 p.2 (l.length + 1) (2 ^ l.length - 1)).bind fun r => some (r, true) else some ([], false)
theorem spec_TakeLine.mono : ∀ a0 a1 k, LeO (spec_TakeLine.f k a0 a1) (spec_TakeLine.f (k + 1) a0 a1) := by
  intro a0 a1 k
  unfold spec_TakeLine.f
  exact LeO.bind (spec_gaTaking.mono _ _ _) fun _ => LeO.ite (LeO.bind (gaNewF_mono k _ _) fun _ => LeO.refl _) (LeO.refl _)
set_option maxHeartbeats 4000000 in
set_option maxRecDepth 100000 in
theorem spec_TakeLine.calls (k : Nat) (a : Int) (A0 : Option Addr) (c0 : Nat) (l : List Int) (r1 : List Int) (r2 : Bool) (w : World) (hr : Kd.C (Kd.int .i64) w A0 l.length l) (hc : l.length ≤ c0) (h : spec_TakeLine.f k a l = some (r1, r2)) :
    Calls Try.prog 31 #[.agg #[.int .i64 a, .slice A0 l.length c0]] w fun e w' => ∃ v0_ : Value, e = .returned (.tuple #[v0_, .bool r2]) ∧ Kd.R (Kd.int .i64) 3 w' w.heap.size (fun _ => True) v0_ r1 ∧ Below w.heap.size w w' := by
  have hu28 := Try.underlying28
  have hu58 := Try.underlying58
  have HR := Aside0.mk hr
  have HC := Aside0.mk hc
  have HB := Aside0.mk (Below.refl w.heap.size w)
  replace h := Option.bind_eq_some_iff.mp h
  obtain ⟨t, ht, h⟩ := h
  have HT := Aside0.mk ht
  clear hr hc ht
  cases t with
  | false =>
    rw [if_neg (by simp)] at h
    simp only [Option.some.injEq, Prod.mk.injEq] at h
    obtain ⟨rfl, rfl⟩ := h
    go_enter Try.func31, Try.ntmps31
    go_wp2_with (first | ((with_reducible refine gate_dst (N := 1) rfl ?_); refine box_event ?hg (N := 1) ?hd (cs := #[.int .i64 a, .slice A0 l.length c0]) (t := 28) ?hr ?_; (case hd => rfl); (case hg => rfl); (case hr => first | (go_simp; done) | (go_simp; rfl)); intro gb hg w1 hbox hb; have n0_ := Aside0.mk (below_step HB.out hb); clear HB; have HB := n0_; clear n0_; have BKL := Aside0.mk hbox; clear hbox hb hg; have hcz0 : w1.cell? ⟨gb, 0, none⟩ = some (.int .i64 a) := (blk_cell BKL.out 0).trans rfl; have hcz1 : w1.cell? ⟨gb, 1, none⟩ = some (.slice A0 l.length c0) := (blk_cell BKL.out 1).trans rfl) | ((with_reducible refine (spec_gaTaking.calls k a A0 c0 l false _ (Kd.C_below HR.out HB.out) HC.out HT.out).mono ?_); rintro e w2 ⟨rfl, hb⟩; have n0_ := Aside0.mk (below_step HB.out hb); have n1_ := Aside0.mk (blk_below BKL.out hb); clear HB BKL hb; have HB := n0_; have BKL := n1_; clear n0_ n1_; have hcy0 : w2.cell? ⟨gb, 0, none⟩ = some (.int .i64 a) := (blk_cell BKL.out 0).trans rfl; have hcy1 : w2.cell? ⟨gb, 1, none⟩ = some (.slice A0 l.length c0) := (blk_cell BKL.out 1).trans rfl))
    go_ret2
    exact ⟨_, rfl, Kd.R_nil _ _ _ _ _, HB.out⟩
  | true =>
    rw [if_pos rfl] at h
    replace h := Option.bind_eq_some_iff.mp h
    obtain ⟨⟨hs, ls⟩, hnew, h⟩ := h
    have hn : l.length ≤ 12 := by
      unfold gaNewF at hnew
      by_cases hn : l.length ≤ 12
      · exact hn
      · rw [if_neg hn] at hnew; cases hnew
    have hN1 : 1 ≤ 2 ^ l.length := Nat.one_le_two_pow
    have hN2 : 2 ^ l.length ≤ 4096 := by have h1 := Nat.pow_le_pow_right (n := 2) (by decide) hn; omega
    have HNEW := Aside0.mk hnew
    have HN12 := Lib.hid hn
    obtain ⟨N, hN⟩ : ∃ N, N = 2 ^ l.length := ⟨_, rfl⟩
    rw [← hN] at hN1 hN2
    have HN1 := Lib.hid hN1
    have HN2 := Lib.hid hN2
    have HNN := Lib.hid hN
    obtain ⟨M, hM⟩ : ∃ M, M = N - 1 := ⟨_, rfl⟩
    have e1 : wrap64 ((N : Int) - 1) = (M : Int) := by unfold wrap64; omega
    have q1 : (M : Int) < (N : Int) := by omega
    have p1 : 0 ≤ (M : Int) := by omega
    have HMN := Lib.hid (show M < N by omega)
    replace p1 := eq_true p1
    replace q1 := eq_true q1
    replace h := Option.bind_eq_some_iff.mp h
    obtain ⟨rr, hrr, h⟩ := h
    simp only [Option.some.injEq, Prod.mk.injEq] at h
    obtain ⟨rfl, rfl⟩ := h
    rw [← hN, ← hM] at hrr
    have HRR := Aside0.mk hrr
    clear hN1 hN2 hn hnew hN hM hrr
    go_enter Try.func31, Try.ntmps31
    go_wp2_with (first | ((with_reducible refine gate_dst (N := 1) rfl ?_); refine box_event ?hg (N := 1) ?hd (cs := #[.int .i64 a, .slice A0 l.length c0]) (t := 28) ?hr ?_; (case hd => rfl); (case hg => rfl); (case hr => first | (go_simp; done) | (go_simp; rfl)); intro gb hg w1 hbox hb; have n0_ := Aside0.mk (below_step HB.out hb); clear HB; have HB := n0_; clear n0_; have BKL := Aside0.mk hbox; clear hbox hb hg; have hcz0 : w1.cell? ⟨gb, 0, none⟩ = some (.int .i64 a) := (blk_cell BKL.out 0).trans rfl; have hcz1 : w1.cell? ⟨gb, 1, none⟩ = some (.slice A0 l.length c0) := (blk_cell BKL.out 1).trans rfl) | ((with_reducible refine (spec_gaTaking.calls k a A0 c0 l true _ (Kd.C_below HR.out HB.out) HC.out HT.out).mono ?_); rintro e w2 ⟨rfl, hb⟩; have n0_ := Aside0.mk (below_step HB.out hb); have n1_ := Aside0.mk (blk_below BKL.out hb); clear HB BKL hb; have HB := n0_; have BKL := n1_; clear n0_ n1_; have hcy0 : w2.cell? ⟨gb, 0, none⟩ = some (.int .i64 a) := (blk_cell BKL.out 0).trans rfl; have hcy1 : w2.cell? ⟨gb, 1, none⟩ = some (.slice A0 l.length c0) := (blk_cell BKL.out 1).trans rfl) | ((with_reducible refine (gaNew_calls k a A0 c0 l hs ls _ (Kd.C_below HR.out HB.out) HC.out HNEW.out).mono ?_); rw [← HNN.out]; rintro e w3 ⟨g, gh, gl, rfl, hga, hb⟩; have HG := Aside0.mk hga; have n0_ := Aside0.mk (below_step HB.out hb); have n1_ := Aside0.mk (blk_below BKL.out hb); clear HB BKL hga hb hcz0 hcz1 hcy0 hcy1; have HB := n0_; have BKL := n1_; clear n0_ n1_; have hcx1 : w3.cell? ⟨gb, 1, none⟩ = some (.slice A0 l.length c0) := (blk_cell BKL.out 1).trans rfl; have hcg3 : w3.cell? ⟨g, 3, none⟩ = some (.slice (some ⟨gl, 0, none⟩) N N) := (blk_cell HG.out.1 3).trans rfl; have hcg2 : w3.cell? ⟨g, 2, none⟩ = some (.slice (some ⟨gh, 0, none⟩) N N) := (blk_cell HG.out.1 2).trans rfl))
    clear hcx1 hcg3 hcg2 BKL
    rw [e1]
    go_loopg [5, 6] (l.length + 1) (fun gg v5 v6 wr => ∃ (d s : Nat) (acc r2 : List Int), d ≤ gg ∧ v5 = .int .i64 (s : Int) ∧ Aside0 (glGo l.length hs ls d s = some r2) ∧ Aside0 (acc ++ r2 = rr) ∧ Aside0 (acc.length + d = l.length + 1) ∧ Aside0 (s < N) ∧ Aside0 (GaB A0 c0 a l g gh gl N hs ls wr) ∧ Aside0 (Kd.R (Kd.int .i64) 3 wr w.heap.size (fun k_ => k_ ≠ g ∧ k_ ≠ gh ∧ k_ ≠ gl) v6 acc) ∧ Aside0 (Below w.heap.size w wr))
    case atStart => exact ⟨l.length + 1, M, [], rr, Nat.le_refl _, rfl, HRR, ⟨rfl⟩, ⟨Nat.zero_add _⟩, ⟨HMN.out⟩, HG, ⟨Kd.R_nil _ _ _ _ _⟩, HB⟩
    case round =>
      clear HG HB HRR
      obtain ⟨d, s, acc, r2, hgg, rfl, HGO, HAC, HAL, HSN, HG, HRO, HB⟩ := hrel
      have hgo := HGO.out
      cases d with
      | zero => rw [glGo] at hgo; cases hgo
      | succ d =>
        rw [glGo] at hgo
        have HGG := Lib.hid hgg
        clear hgg HGO
        have hcg2 : wr.cell? ⟨g, 2, none⟩ = some (.slice (some ⟨gh, 0, none⟩) N N) := (blk_cell HG.out.1 2).trans rfl
        have hch := HG.out.atH s HSN.out
        have p2 : 0 ≤ ((s : Nat) : Int) := by clear e1; omega
        have q2 : ((s : Nat) : Int) < (N : Int) := by have := HSN.out; clear e1; omega
        replace p2 := eq_true p2
        replace q2 := eq_true q2
        obtain ⟨hv, hhv⟩ : ∃ hv, hv = hs.getD s false := ⟨_, rfl⟩
        rw [← hhv] at hch hgo
        clear hhv
        cases hv0 : hv with
        | true =>
          subst hv0
          rw [if_pos rfl] at hgo
          injection hgo with hgo
          subst hgo
          have hac := HAC.out
          rw [List.append_nil] at hac
          have HAA := Aside0.mk hac
          clear hac HAC
          go_wp2
          go_ret2
          exact ⟨_, rfl, by rw [← HAA.out]; exact Kd.R_mono HRO.out (fun _ _ => trivial), HB.out⟩
        | false =>
          subst hv0
          rw [if_neg (by simp)] at hgo
          obtain ⟨y, hy⟩ : ∃ y, y = gbF l.length hs ls s := ⟨_, rfl⟩
          rw [← hy] at hgo
          have HY := Lib.hid hy
          clear hy
          by_cases hc : 0 ≤ y ∧ y < 12 ∧ ¬ s / 2 ^ y.toNat % 2 = 0
          case neg => rw [if_neg hc] at hgo; cases hgo
          rw [if_pos hc] at hgo
          obtain ⟨t, rfl⟩ : ∃ t : Nat, y = t := ⟨y.toNat, by clear e1; omega⟩
          rw [show ((t : Int)).toNat = t from rfl] at hgo hc
          replace hgo := Option.bind_eq_some_iff.mp hgo
          obtain ⟨r3, h3, hgo⟩ := hgo
          injection hgo with hgo
          have ht12 : t < 12 := by clear e1; omega
          have HTL := Lib.hid ht12
          have ec := clrI_eq s t (Nat.lt_of_lt_of_le HSN.out HN2.out) ht12 hc.2.2
          rw [← show min t 64 = t from Nat.min_eq_left (by clear ec e1; omega)] at ec
          rw [show s - 2 ^ min t 64 = s - 2 ^ t by rw [Nat.min_eq_left (by clear ec e1; omega)]] at ec
          obtain ⟨s2, hs2⟩ : ∃ s2, s2 = s - 2 ^ t := ⟨_, rfl⟩
          rw [← hs2] at ec h3
          have HS2 := Lib.hid (show s2 < N by rw [hs2]; exact Nat.lt_of_le_of_lt (Nat.sub_le _ _) HSN.out)
          have H3 := Aside0.mk h3
          have HGO2 := Aside0.mk hgo
          clear hc h3 ht12 hs2 hgo
          go_wp2_with (first | ((with_reducible refine (gb_calls a A0 c0 l g gh gl N hs ls s _ HN12.out HN2.out HSN.out HG.out).mono ?_); rw [← HY.out]; rintro e w5 ⟨rfl, ⟨q5, rfl⟩⟩; have n0_ := Aside0.mk (HG.out.drewN q5); have n1_ := Aside0.mk (Kd.R_drewN HRO.out q5); have n2_ := Aside0.mk (pw_below_drewN HB.out q5); clear HG HRO HB; have HG := n0_; have HRO := n1_; have HB := n2_; clear n0_ n1_ n2_) | ((with_reducible refine gate_builtin (b := .append) (xs := #[.tmp 30, .tmp 32]) rfl ?_); at_builtin; refine Kd.R_append (Kd.int .i64) (w0 := w) w.heap.size rfl (.tmp 30) (.tmp 32) 22 3 (.int .i64 0) 8 rfl Try.underlying22 info3 rfl (by decide) (by omega) u6 acc (t : Int) [.int .i64 (t : Int)] (fun k_ => k_ ≠ g ∧ k_ ≠ gh ∧ k_ ≠ gl) (fun _ => False) rfl rfl ?aP (fun _ hk => hk.elim) ?aF ?aO ?aB ?aS ?aL ?_; (case aP => exact rfl); (case aB => exact HB.out); (case aF => exact (fun k_ hk => ⟨Nat.ne_of_gt (Nat.lt_of_lt_of_le (blk_lt HG.out.1) hk), Nat.ne_of_gt (Nat.lt_of_lt_of_le (blk_lt HG.out.2.1) hk), Nat.ne_of_gt (Nat.lt_of_lt_of_le (blk_lt HG.out.2.2.1) hk)⟩)); (case aO => exact HRO.out); (case aS => exact HB.out.size); (case aL => exact (by have := HN12.out; have := HAL.out; omega)); intro v2 w2 ho hb hg hat; have n0_ := Aside0.mk (HG.out.grown hg (fun k_ e_ => HRO.out.1 k_ e_)); have n1_ := Aside0.mk ho; have n2_ := Aside0.mk hb; clear HG HRO HB ho hb hg hat; have HG := n0_; have HRO := n1_; have HB := n2_; clear n0_ n1_ n2_))
          go_roundg d
          case measure => have := HGG.out; omega
          case rel => exact ⟨d, s2, acc ++ [(t : Int)], r3, Nat.le_refl _, rfl, H3, ⟨by rw [← HAC.out, ← HGO2.out, List.append_assoc]; rfl⟩, ⟨by rw [List.length_append]; have := HAL.out; simp; omega⟩, ⟨HS2.out⟩, HG, HRO, HB⟩


/-! ### impl_TakeLine: function 32 -/
def lineGo (hm : Nat → Option Bool) (bst : Nat → Option (Bool × Int × Int)) : Nat → Nat → Option (List Int)
  | 0, _ => none
  | d + 1, s => (hm s).bind fun b => if b = true then some [] else (bst s).bind fun o => if 0 ≤ o.2.1 ∧ o.2.1 < 12 ∧ ¬ s / 2 ^ o.2.1.toNat % 2 = 0 then (lineGo hm bst d (s - 2 ^ o.2.1.toNat)).bind fun r => some (o.2.1 :: r) else none
theorem lineGo_mono {hm hm' : Nat → Option Bool} {bst bst' : Nat → Option (Bool × Int × Int)} (h1 : ∀ s, LeO (hm s) (hm' s)) (h2 : ∀ s, LeO (bst s) (bst' s)) : ∀ d s, LeO (lineGo hm bst d s) (lineGo hm' bst' d s)
  | 0, _ => LeO.refl _
  | d + 1, s => LeO.bind (h1 s) fun _ => LeO.ite (LeO.refl _) (LeO.bind (h2 s) fun _ => LeO.ite (LeO.bind (lineGo_mono h1 h2 d _) fun _ => LeO.refl _) (LeO.refl _))
def impl_TakeLine.f (k : Nat) (a0 : Int) (l0 : List Int) : Option (List Int × Bool) := (impl_isTaking.f k a0 l0).bind fun t => if t = true then (if l0.length ≤ 12 then (lineGo (fun s => impl_isHomely.f k a0 (leftR l0 s)) (bestF k a0 l0) (l0.length + 1) (2 ^ l0.length - 1)).bind fun r => some (r, true) else none) else some ([], false)
theorem impl_TakeLine.mono : ∀ a0 a1 k, LeO (impl_TakeLine.f k a0 a1) (impl_TakeLine.f (k + 1) a0 a1) := by
  intro a0 a1 k
  unfold impl_TakeLine.f
  exact LeO.bind (impl_isTaking.mono _ _ _) fun _ => LeO.ite (LeO.ite (LeO.bind (lineGo_mono (fun _ => impl_isHomely.mono _ _ _) (bestF_mono k a0 a1) _ _) fun _ => LeO.refl _) (LeO.refl _)) (LeO.refl _)
set_option maxHeartbeats 4000000 in
set_option maxRecDepth 100000 in
theorem impl_TakeLine.calls (k : Nat) (a0_0 : Int) (A0_1 : Option Addr) (c0_1 : Nat) (l0_1 : List Int) (r1 : List Int) (r2 : Bool) (w : World) (hr0_1 : Kd.C (Kd.int .i64) w A0_1 l0_1.length l0_1) (hc0_1 : l0_1.length ≤ c0_1) (h : impl_TakeLine.f k a0_0 l0_1 = some (r1, r2)) :
    Calls Try.prog 32 #[.agg #[.int .i64 a0_0, .slice A0_1 l0_1.length c0_1]] w fun e w' => ∃ v0_ : Value, e = .returned (.tuple #[v0_, .bool r2]) ∧ Kd.R (Kd.int .i64) 3 w' w.heap.size (fun _ => True) v0_ r1 ∧ Below w.heap.size w w' := by
  have hu28 := Try.underlying28
  have hu60 := Try.underlying60
  have hfl : ∀ (W : World) (x : Bool) (y z : Int), (Instr.field 60 (.agg #[.bool x, .int .i64 y, .int .i64 z]) 1).run Try.prog W = .ok (.int .i64 y) W := fun _ _ _ _ => by kernel_rfl
  have HR := Aside0.mk hr0_1
  have HC := Aside0.mk hc0_1
  have HB := Aside0.mk (Below.refl w.heap.size w)
  replace h := Option.bind_eq_some_iff.mp h
  obtain ⟨t, ht, h⟩ := h
  have HT := Aside0.mk ht
  clear hr0_1 hc0_1 ht
  cases t with
  | false =>
    rw [if_neg (by simp)] at h
    simp only [Option.some.injEq, Prod.mk.injEq] at h
    obtain ⟨rfl, rfl⟩ := h
    go_enter Try.func32, Try.ntmps32
    go_wp2_with (first | ((with_reducible refine gate_dst (N := 1) rfl ?_); refine box_event ?hg (N := 1) ?hd (cs := #[.int .i64 a0_0, .slice A0_1 l0_1.length c0_1]) (t := 28) ?hr ?_; (case hd => rfl); (case hg => rfl); (case hr => first | (go_simp; done) | (go_simp; rfl)); intro gl hg w1 hbox hb; have n0_ := Aside0.mk (below_step HB.out hb); clear HB; have HB := n0_; clear n0_; have BKL := Aside0.mk hbox; clear hbox hb hg; have hcz0 : w1.cell? ⟨gl, 0, none⟩ = some (.int .i64 a0_0) := (blk_cell BKL.out 0).trans rfl; have hcz1 : w1.cell? ⟨gl, 1, none⟩ = some (.slice A0_1 l0_1.length c0_1) := (blk_cell BKL.out 1).trans rfl; have hfz0 := blk_frozen BKL.out 0; have hfz1 := blk_frozen BKL.out 1) | ((with_reducible refine gate_callee (f := 37) rfl ?_); refine goesL_ (some 11) rfl rfl Try.func37 (by kernel_rfl) rfl #[.agg #[.int .i64 a0_0, .slice A0_1 l0_1.length c0_1]] rfl (by (try simp only [List.map_toArray, List.map_cons, List.map_nil]); first | done | rfl) ?_; (with_reducible refine (gameOf_calls k a0_0 A0_1 c0_1 l0_1 _ _ (Kd.C_below HR.out HB.out) HC.out HT.out).mono ?_); rintro e w2 ⟨g, bm, rfl, hgm, hmp, hne, hgw, hmw, hb⟩; refine ⟨_, rfl, ?_⟩; have HG := Aside0.mk hgm; have n0_ := Aside0.mk (below_step HB.out hb); clear HB; have HB := n0_; clear n0_ hgm hmp hne hgw hmw hb BKL))
    go_ret2
    exact ⟨_, rfl, Kd.R_nil _ _ _ _ _, HB.out⟩
  | true =>
    rw [if_pos rfl] at h
    by_cases hn : l0_1.length ≤ 12
    case neg => rw [if_neg hn] at h; cases h
    rw [if_pos hn] at h
    replace h := Option.bind_eq_some_iff.mp h
    obtain ⟨rr, hm, h⟩ := h
    simp only [Option.some.injEq, Prod.mk.injEq] at h
    obtain ⟨rfl, rfl⟩ := h
    have HN := Lib.hid hn
    have HM := Aside0.mk hm
    obtain ⟨S, hS⟩ : ∃ S, S = 2 ^ l0_1.length - 1 := ⟨_, rfl⟩
    have HS4 := Lib.hid (show S < 4096 by have h1 := Nat.pow_le_pow_right (n := 2) (by decide) hn; rw [hS]; omega)
    have HSS := Lib.hid hS
    clear hn hm hS
    go_enter Try.func32, Try.ntmps32
    go_wp2_with (first | ((with_reducible refine gate_dst (N := 1) rfl ?_); refine box_event ?hg (N := 1) ?hd (cs := #[.int .i64 a0_0, .slice A0_1 l0_1.length c0_1]) (t := 28) ?hr ?_; (case hd => rfl); (case hg => rfl); (case hr => first | (go_simp; done) | (go_simp; rfl)); intro gl hg w1 hbox hb; have n0_ := Aside0.mk (below_step HB.out hb); clear HB; have HB := n0_; clear n0_; have BKL := Aside0.mk hbox; clear hbox hb hg; have hcz0 : w1.cell? ⟨gl, 0, none⟩ = some (.int .i64 a0_0) := (blk_cell BKL.out 0).trans rfl; have hcz1 : w1.cell? ⟨gl, 1, none⟩ = some (.slice A0_1 l0_1.length c0_1) := (blk_cell BKL.out 1).trans rfl; have hfz0 := blk_frozen BKL.out 0; have hfz1 := blk_frozen BKL.out 1) | ((with_reducible refine gate_callee (f := 37) rfl ?_); refine goesL_ (some 11) rfl rfl Try.func37 (by kernel_rfl) rfl #[.agg #[.int .i64 a0_0, .slice A0_1 l0_1.length c0_1]] rfl (by (try simp only [List.map_toArray, List.map_cons, List.map_nil]); first | done | rfl) ?_; (with_reducible refine (gameOf_calls k a0_0 A0_1 c0_1 l0_1 _ _ (Kd.C_below HR.out HB.out) HC.out HT.out).mono ?_); rintro e w2 ⟨g, bm, rfl, hgm, hmp, hne, hgw, hmw, hb⟩; refine ⟨_, rfl, ?_⟩; have HSU := Aside0.mk (show Setup w A0_1 c0_1 a0_0 l0_1 g bm from ⟨HR.out, HC.out, HN.out, Nat.le_trans HB.out.size hgw, Nat.le_trans HB.out.size hmw, hne⟩); have HG := Aside0.mk (show Gm w A0_1 c0_1 a0_0 l0_1 g bm w2 from ⟨hgm, ⟨.map [], hmp, KnownD.nil _ _⟩, below_step HB.out hb⟩); have BKL2 := Aside0.mk (blk_below BKL.out hb); clear BKL HB hgm hmp hne hgw hmw hb; have hcy1 : w2.cell? ⟨gl, 1, none⟩ = some (.slice A0_1 l0_1.length c0_1) := (blk_cell BKL2.out 1).trans rfl) | ((with_reducible refine gate_dst (N := 16) rfl ?_); refine Kd.R_lit (Kd.int .i64) _ 3 ?hg (N := 16) ?hd (xs := ([] : List (Int))) (inner := []) (ok := (fun k_ => k_ ≠ g ∧ k_ ≠ bm)) (okp := fun _ => False) ?hr ?hp (fun _ hk => hk.elim) ⟨Nat.ne_of_gt HG.out.g_lt, Nat.ne_of_gt HG.out.bm_lt⟩ (Below.refl _ _) (Nat.le_refl _) (by simp) ?_; (case hd => rfl); (case hg => rfl); (case hr => first | (go_simp; done) | (go_simp; rfl)); (case hp => exact (Reps.none _ _)); intro v16 w3 ho hb hg_ hnew_; clear hg_ hnew_; have HRO := Aside0.mk (Kd.R_lower ho HG.out.2.2.size); have n0_ := Aside0.mk (HG.out.below hb); have hcx1 : w3.cell? ⟨gl, 1, none⟩ = some (.slice A0_1 l0_1.length c0_1) := (blk_cell (blk_below BKL2.out hb) 1).trans rfl; clear HG BKL2 ho hb; have HG := n0_; clear n0_) | ((with_reducible refine (full_calls a0_0 A0_1 c0_1 l0_1 (by have := HN.out; omega) g bm _ HG.out.game).mono ?_); rw [← HSS.out]; rintro e w4 ⟨rfl, ⟨q', rfl⟩⟩; have n0_ := Aside0.mk (HG.out.drewN q'); have n1_ := Aside0.mk (Kd.R_drewN HRO.out q'); clear HG HRO; have HG := n0_; have HRO := n1_; clear n0_ n1_))
    clear hcz0 hcz1 hfz0 hfz1 hcy1 hcx1
    go_loopg [6, 7] (l0_1.length + 1) (fun gg v6 v7 wr => ∃ (d s : Nat) (acc r2 : List Int), d ≤ gg ∧ d ≤ l0_1.length + 1 ∧ v7 = .int .u64 (s : Int) ∧ Aside0 (lineGo (fun s => impl_isHomely.f k a0_0 (leftR l0_1 s)) (bestF k a0_0 l0_1) d s = some r2) ∧ Aside0 (acc ++ r2 = rr) ∧ Aside0 (acc.length + d = l0_1.length + 1) ∧ Aside0 (s < 4096) ∧ Aside0 (Gm w A0_1 c0_1 a0_0 l0_1 g bm wr) ∧ Aside0 (Kd.R (Kd.int .i64) 3 wr w.heap.size (fun k_ => k_ ≠ g ∧ k_ ≠ bm) v6 acc))
    case atStart => exact ⟨l0_1.length + 1, S, [], rr, Nat.le_refl _, Nat.le_refl _, rfl, ⟨by rw [HSS.out]; exact HM.out⟩, ⟨rfl⟩, ⟨Nat.zero_add _⟩, ⟨HS4.out⟩, ⟨HG.out⟩, ⟨HRO.out⟩⟩
    case round =>
      clear HG HRO HM HS4 HSS
      obtain ⟨d, s, acc, r2, hgg, hd, rfl, HGO, HAC, HAL, HS4, HG, HRO⟩ := hrel
      have hgo := HGO.out
      cases d with
      | zero => rw [lineGo] at hgo; cases hgo
      | succ d =>
        rw [lineGo] at hgo
        replace hgo := Option.bind_eq_some_iff.mp hgo
        obtain ⟨b, hb, hgo⟩ := hgo
        have HH := Aside0.mk hb
        have HGG := Lib.hid hgg
        clear hb HGO hgg hd
        cases hb0 : b with
        | true =>
          subst hb0
          rw [if_pos rfl] at hgo
          injection hgo with hgo
          subst hgo
          have hac := HAC.out
          rw [List.append_nil] at hac
          have HAA := Aside0.mk hac
          clear hac HAC
          go_wp2_with (first | ((with_reducible refine (isOver_calls k a0_0 A0_1 c0_1 l0_1 (by have := HN.out; omega) s (by have := HS4.out; omega) true g bm _ HG.out.game (HSU.out.C HG.out) HSU.out.cap HH.out).mono ?_); rintro e w5 ⟨rfl, hb⟩; have n0_ := Aside0.mk (HG.out.below hb); have n1_ := Aside0.mk (Kd.R_below HRO.out hb); clear HG HRO hb; have HG := n0_; have HRO := n1_; clear n0_ n1_))
          go_ret2
          exact ⟨_, rfl, by rw [← HAA.out]; exact Kd.R_mono HRO.out (fun _ _ => trivial), HG.out.2.2⟩
        | false =>
          subst hb0
          rw [if_neg (by simp)] at hgo
          replace hgo := Option.bind_eq_some_iff.mp hgo
          obtain ⟨⟨x, y, z⟩, ho, hgo⟩ := hgo
          by_cases hc : 0 ≤ y ∧ y < 12 ∧ ¬ s / 2 ^ y.toNat % 2 = 0
          case neg => rw [if_neg hc] at hgo; cases hgo
          rw [if_pos hc] at hgo
          obtain ⟨t, rfl⟩ : ∃ t : Nat, y = t := ⟨y.toNat, by omega⟩
          rw [show ((t : Int)).toNat = t from rfl] at hgo hc
          replace hgo := Option.bind_eq_some_iff.mp hgo
          obtain ⟨r3, h3, hgo⟩ := hgo
          injection hgo with hgo
          have HO := Aside0.mk ho
          have ht12 : t < 12 := by omega
          have HTL := Lib.hid ht12
          have ec := clrE_eq s t HS4.out ht12 hc.2.2
          rw [← show min t 64 = t from Nat.min_eq_left (by clear ec; omega)] at ec
          rw [show s - 2 ^ min t 64 = s - 2 ^ t by rw [Nat.min_eq_left (by clear ec; omega)]] at ec
          obtain ⟨s2, hs2⟩ : ∃ s2, s2 = s - 2 ^ t := ⟨_, rfl⟩
          rw [← hs2] at ec h3
          have HS2 := Lib.hid (show s2 < 4096 by rw [hs2]; exact Nat.lt_of_le_of_lt (Nat.sub_le _ _) HS4.out)
          have H3 := Aside0.mk h3
          have HGO2 := Aside0.mk hgo
          clear ho hc h3 ht12 hs2 hgo
          go_wp2_with (first | ((with_reducible refine (isOver_calls k a0_0 A0_1 c0_1 l0_1 (by have := HN.out; omega) s (by have := HS4.out; omega) false g bm _ HG.out.game (HSU.out.C HG.out) HSU.out.cap HH.out).mono ?_); rintro e w5 ⟨rfl, hb⟩; have n0_ := Aside0.mk (HG.out.below hb); have n1_ := Aside0.mk (Kd.R_below HRO.out hb); clear HG HRO hb; have HG := n0_; have HRO := n1_; clear n0_ n1_) | ((with_reducible refine ((best_at HSU.out k).calls s HS4.out x (t : Int) z HO.out HG.out).mono ?_); rintro e w6 ⟨rfl, hgm, hgr⟩; have n0_ := Aside0.mk hgm; have n1_ := Aside0.mk (Kd.R_grown HRO.out hgr (fun k_ hk_ e_ => hk_.2 (by injection e_))); clear HG HRO hgm hgr; have HG := n0_; have HRO := n1_; clear n0_ n1_) | ((with_reducible refine gate_builtin (b := .append) (xs := #[.tmp 27, .tmp 29]) rfl ?_); at_builtin; refine Kd.R_append (Kd.int .i64) (w0 := w) w.heap.size rfl (.tmp 27) (.tmp 29) 22 3 (.int .i64 0) 8 rfl Try.underlying22 info3 rfl (by decide) (by omega) u6 acc (t : Int) [.int .i64 (t : Int)] (fun k_ => k_ ≠ g ∧ k_ ≠ bm) (fun _ => False) rfl rfl ?aP (fun _ hk => hk.elim) ?aF ?aO ?aB ?aS ?aL ?_; (case aP => exact rfl); (case aB => exact HG.out.2.2); (case aF => exact (fun k_ hk => ⟨Nat.ne_of_gt (Nat.lt_of_lt_of_le HG.out.g_lt hk), Nat.ne_of_gt (Nat.lt_of_lt_of_le HG.out.bm_lt hk)⟩)); (case aO => exact HRO.out); (case aS => exact HG.out.2.2.size); (case aL => exact (by have := HN.out; have := HAL.out; omega)); intro v2 w2 ho hb hg hat; have n0_ := Aside0.mk (HG.out.row hg (fun k_ e_ => ⟨HRO.out.1 k_ e_, Kd.R_base HRO.out k_ e_⟩)); have n1_ := Aside0.mk ho; clear HG HRO ho hb hg hat; have HG := n0_; have HRO := n1_; clear n0_ n1_))
          go_roundg d
          case measure => have := HGG.out; omega
          case rel => exact ⟨d, s2, acc ++ [(t : Int)], r3, Nat.le_refl _, by have := HAL.out; omega, rfl, H3, ⟨by rw [← HAC.out, ← HGO2.out, List.append_assoc]; rfl⟩, ⟨by rw [List.length_append]; have := HAL.out; simp; omega⟩, ⟨HS2.out⟩, HG, HRO⟩


/-! ### laws_FnExactTakeLine: function 9 -/
def laws_FnExactTakeLine.f (k : Nat) (a0_0 : Int) (l0_1 : List Int) : Option (Bool) := (laws_szLadder.f a0_0 l0_1 1048576).bind fun t406 => (if t406 < 0 then (some true) else ((laws_toLadder.f k a0_0 l0_1).bind fun bt407 => ((spec_TakeLine.f k bt407.1 bt407.2).bind fun bt411 => ((laws_toLadder.f k a0_0 l0_1).bind fun bt415 => ((impl_TakeLine.f k bt415.1 bt415.2).bind fun bt420 => ((laws_eqIntS.f k bt420.1 bt411.1).bind fun t424 => (if t424 = true then (if (bt420.2 != bt411.2) = true then (none) else ((laws_toLadder.f k a0_0 l0_1).bind fun bt425 => ((laws_eqLadder.f k bt415.1 bt415.2 bt425.1 bt425.2).bind fun t429 => (if t429 = true then ((laws_markLadder.f k bt415.1 bt415.2 1).bind fun bt430 => (if bt430.1 < 0 then (none) else ((laws_eqIntS.f k bt420.1 bt411.1).bind fun t432 => (if t432 = true then ((laws_markIntS.f k bt420.1 1).bind fun bt433 => ((laws_heldIntS.f k bt433.2 1).bind fun t435 => (if t435 < 0 then (none) else (if t435 = bt433.1 then ((laws_toLadder.f k a0_0 l0_1).bind fun bt436 => ((impl_TakeLine.f k bt436.1 bt436.2).bind fun bt440 => ((laws_eqIntS.f k bt440.1 bt411.1).bind fun t444 => (if t444 = true then (if (bt440.2 != bt411.2) = true then (none) else ((laws_heldIntS.f k bt433.2 1).bind fun t445 => (if t445 < 0 then (none) else (if t445 = bt433.1 then (some true) else (none))))) else (none))))) else (none))))) else (none))))) else (none))))) else (none))))))))
theorem laws_FnExactTakeLine.mono : ∀ a0 a1 k, LeO (laws_FnExactTakeLine.f k a0 a1) (laws_FnExactTakeLine.f (k + 1) a0 a1) := by
  intro a0 a1 k
  unfold laws_FnExactTakeLine.f
  repeat' first
      | (with_reducible exact impl_TakeLine.mono _ _ _)
      | (with_reducible exact laws_eqIntS.mono _ _ _)
      | (with_reducible exact laws_eqLadder.mono _ _ _ _ _)
      | (with_reducible exact laws_heldIntS.mono _ _ _)
      | (with_reducible exact laws_markIntS.mono _ _ _)
      | (with_reducible exact laws_markLadder.mono _ _ _ _)
      | (with_reducible exact laws_toLadder.mono _ _ _)
      | (with_reducible exact spec_TakeLine.mono _ _ _)
      | (with_reducible exact LeO.refl _)
      | (with_reducible exact LeO.none _)
      | (with_reducible refine LeO.ite ?_ ?_)
      | (with_reducible refine LeO.bind ?_ (fun _ => ?_))
      | exact impl_TakeLine.mono _ _ _
      | exact laws_eqIntS.mono _ _ _
      | exact laws_eqLadder.mono _ _ _ _ _
      | exact laws_heldIntS.mono _ _ _
      | exact laws_markIntS.mono _ _ _
      | exact laws_markLadder.mono _ _ _ _
      | exact laws_toLadder.mono _ _ _
      | exact spec_TakeLine.mono _ _ _
      | exact LeO.none _
      | refine LeO.ite ?_ ?_
      | refine LeO.bind ?_ (fun _ => ?_)
set_option maxHeartbeats 8000000 in
set_option maxRecDepth 100000 in
theorem laws_FnExactTakeLine.calls (k : Nat) (a0_0 : Int) (A0_1 : Option Addr) (c0_1 : Nat) (l0_1 : List Int) (r : Bool) (w : World) (hr0_1 : Kd.C (Kd.int .i64) w A0_1 l0_1.length l0_1) (hc0_1 : l0_1.length ≤ c0_1) (h : laws_FnExactTakeLine.f k a0_0 l0_1 = some r) :
    Calls Try.prog 9 #[.agg #[.int .i64 a0_0, .slice A0_1 l0_1.length c0_1]] w fun e w' => e = .returned (.bool r) ∧ Below w.heap.size w w' := by
  have hu24 := Try.underlying24
  have hu28 := Try.underlying28
  have HR0_1 := Aside0.mk hr0_1
  have HC0_1 := Aside0.mk hc0_1
  clear hr0_1 hc0_1
  have HB := Aside0.mk (Below.refl w.heap.size w)
  have H : ((laws_szLadder.f a0_0 l0_1 1048576).bind fun t406 => (if t406 < 0 then (some true) else ((laws_toLadder.f k a0_0 l0_1).bind fun bt407 => ((spec_TakeLine.f k bt407.1 bt407.2).bind fun bt411 => ((laws_toLadder.f k a0_0 l0_1).bind fun bt415 => ((impl_TakeLine.f k bt415.1 bt415.2).bind fun bt420 => ((laws_eqIntS.f k bt420.1 bt411.1).bind fun t424 => (if t424 = true then (if (bt420.2 != bt411.2) = true then (none) else ((laws_toLadder.f k a0_0 l0_1).bind fun bt425 => ((laws_eqLadder.f k bt415.1 bt415.2 bt425.1 bt425.2).bind fun t429 => (if t429 = true then ((laws_markLadder.f k bt415.1 bt415.2 1).bind fun bt430 => (if bt430.1 < 0 then (none) else ((laws_eqIntS.f k bt420.1 bt411.1).bind fun t432 => (if t432 = true then ((laws_markIntS.f k bt420.1 1).bind fun bt433 => ((laws_heldIntS.f k bt433.2 1).bind fun t435 => (if t435 < 0 then (none) else (if t435 = bt433.1 then ((laws_toLadder.f k a0_0 l0_1).bind fun bt436 => ((impl_TakeLine.f k bt436.1 bt436.2).bind fun bt440 => ((laws_eqIntS.f k bt440.1 bt411.1).bind fun t444 => (if t444 = true then (if (bt440.2 != bt411.2) = true then (none) else ((laws_heldIntS.f k bt433.2 1).bind fun t445 => (if t445 < 0 then (none) else (if t445 = bt433.1 then (some true) else (none))))) else (none))))) else (none))))) else (none))))) else (none))))) else (none))))))))) = some r := h
  clear h
  replace H := Option.bind_eq_some_iff.mp H
  obtain ⟨t406, A20, H⟩ := H
  replace H : (if t406 < 0 then (some true) else ((laws_toLadder.f k a0_0 l0_1).bind fun bt407 => ((spec_TakeLine.f k bt407.1 bt407.2).bind fun bt411 => ((laws_toLadder.f k a0_0 l0_1).bind fun bt415 => ((impl_TakeLine.f k bt415.1 bt415.2).bind fun bt420 => ((laws_eqIntS.f k bt420.1 bt411.1).bind fun t424 => (if t424 = true then (if (bt420.2 != bt411.2) = true then (none) else ((laws_toLadder.f k a0_0 l0_1).bind fun bt425 => ((laws_eqLadder.f k bt415.1 bt415.2 bt425.1 bt425.2).bind fun t429 => (if t429 = true then ((laws_markLadder.f k bt415.1 bt415.2 1).bind fun bt430 => (if bt430.1 < 0 then (none) else ((laws_eqIntS.f k bt420.1 bt411.1).bind fun t432 => (if t432 = true then ((laws_markIntS.f k bt420.1 1).bind fun bt433 => ((laws_heldIntS.f k bt433.2 1).bind fun t435 => (if t435 < 0 then (none) else (if t435 = bt433.1 then ((laws_toLadder.f k a0_0 l0_1).bind fun bt436 => ((impl_TakeLine.f k bt436.1 bt436.2).bind fun bt440 => ((laws_eqIntS.f k bt440.1 bt411.1).bind fun t444 => (if t444 = true then (if (bt440.2 != bt411.2) = true then (none) else ((laws_heldIntS.f k bt433.2 1).bind fun t445 => (if t445 < 0 then (none) else (if t445 = bt433.1 then (some true) else (none))))) else (none))))) else (none))))) else (none))))) else (none))))) else (none)))))))) = some r := H
  have A2 := Aside0.mk A20
  clear A20
  by_cases c3 : t406 < 0
  · rw [if_pos c3] at H
    have c3b0 : decide (t406 < 0) = true := decide_eq_true c3
    clear c3
    obtain rfl := Option.some.inj H
    go_enter Try.func9, Try.ntmps9
    go_wp2_with (first | ((with_reducible refine gate_dst (N := 1) rfl ?_); refine box_event ?hg (N := 1) ?hd (cs := #[.int .i64 a0_0, .slice A0_1 l0_1.length c0_1]) (t := 24) ?hr ?_; (case hd => rfl); (case hg => rfl); (case hr => first | (go_simp; done) | (go_simp; rfl)); intro gb405 hg w4 hbox hb; have n0_ := Aside0.mk (below_step (by repeat (first | (with_reducible first | exact HB.out | apply below_alloc | apply pw_below_drewN | apply below_drew1) | exact HB.out)) hb); have n1_ := Aside0.mk (hbox); have n2_ := Aside0.mk ((by rw [hg]; exact (below_size (by repeat (first | (with_reducible first | exact HB.out | apply below_alloc | apply pw_below_drewN | apply below_drew1) | exact HB.out))) : w.heap.size ≤ gb405)); have n3_ := Aside0.mk ((by rw [hg]; exact (below_size (by repeat (first | (with_reducible first | exact HB.out | apply below_alloc | apply pw_below_drewN | apply below_drew1) | exact HB.out))) : w.heap.size ≤ gb405)); clear HB; have HB := n0_; have BK405 := n1_; have GW405 := n2_; have GE405 := n3_; clear n0_ n1_ n2_ n3_; clear hb hbox hg; have hcz5_0 : w4.cell? ⟨gb405, 0, none⟩ = some (.int .i64 a0_0) := (blk_cell BK405.out 0).trans rfl; have hcz5_1 : w4.cell? ⟨gb405, 1, none⟩ = some (.slice A0_1 l0_1.length c0_1) := (blk_cell BK405.out 1).trans rfl; have hfz5_0 := blk_frozen BK405.out 0; have hfz5_1 := blk_frozen BK405.out 1) | ((with_reducible refine gate_callee (f := 10) rfl ?_); refine goesL_ (some 16) rfl rfl Try.func10 (by kernel_rfl) rfl #[.agg #[.int .i64 a0_0, .slice A0_1 l0_1.length c0_1], .int .i64 1048576] rfl (by (try simp only [List.map_toArray, List.map_cons, List.map_nil]); first | done | rfl | (simp only [List.length_drop, List.length_take]; rfl)) ?_; (with_reducible refine (laws_szLadder.calls a0_0 _ _ l0_1 1048576 t406 _ ?side1 ?side2 A2.out).mono ?_); (case side1 => repeat (first | exact (Kd.C_below HR0_1.out HB.out) | (with_reducible refine Kd.C_alloc ?_ _) | (with_reducible refine Kd.C_drewN ?_ _) | (with_reducible refine Kd.C_drew ?_))); (case side2 => exact HC0_1.out); rintro e w6 ⟨rfl, hb⟩; refine ⟨_, rfl, ?_⟩; have n0_ := Aside0.mk (blk_below (g := gb405) (o := .cells #[.int .i64 a0_0, .slice A0_1 l0_1.length c0_1] 24 (0, 0)) (by (with_reducible repeat (first | refine blk_drewN ?_ _ | refine blk_drew ?_ | refine blk_alloc ?_ _)); exact BK405.out) hb); have n1_ := Aside0.mk (below_step (by repeat (first | (with_reducible first | exact HB.out | apply below_alloc | apply pw_below_drewN | apply below_drew1 | refine below_set ?_ GE405.out) | exact HB.out)) hb); clear BK405; clear HB; have BK405 := n0_; have HB := n1_; clear n0_ n1_; (try clear hb); (try clear hb2); (try clear hk); (try clear hi)))
    go_ret
    exact ⟨by first | rfl | (simp [errW_none, errW_some] <;> rfl) | (simp [*, errW_none, errW_some] <;> rfl), by repeat (first | (with_reducible first | exact HB.out | apply below_alloc | apply pw_below_drewN | apply below_drew1 | refine below_set ?_ GE405.out) | exact HB.out)⟩
  · rw [if_neg c3] at H
    have c3b0 : decide (t406 < 0) = false := decide_eq_false c3
    clear c3
    replace H := Option.bind_eq_some_iff.mp H
    obtain ⟨⟨t407, t408⟩, A70, H⟩ := H
    replace H : ((spec_TakeLine.f k t407 t408).bind fun bt411 => ((laws_toLadder.f k a0_0 l0_1).bind fun bt415 => ((impl_TakeLine.f k bt415.1 bt415.2).bind fun bt420 => ((laws_eqIntS.f k bt420.1 bt411.1).bind fun t424 => (if t424 = true then (if (bt420.2 != bt411.2) = true then (none) else ((laws_toLadder.f k a0_0 l0_1).bind fun bt425 => ((laws_eqLadder.f k bt415.1 bt415.2 bt425.1 bt425.2).bind fun t429 => (if t429 = true then ((laws_markLadder.f k bt415.1 bt415.2 1).bind fun bt430 => (if bt430.1 < 0 then (none) else ((laws_eqIntS.f k bt420.1 bt411.1).bind fun t432 => (if t432 = true then ((laws_markIntS.f k bt420.1 1).bind fun bt433 => ((laws_heldIntS.f k bt433.2 1).bind fun t435 => (if t435 < 0 then (none) else (if t435 = bt433.1 then ((laws_toLadder.f k a0_0 l0_1).bind fun bt436 => ((impl_TakeLine.f k bt436.1 bt436.2).bind fun bt440 => ((laws_eqIntS.f k bt440.1 bt411.1).bind fun t444 => (if t444 = true then (if (bt440.2 != bt411.2) = true then (none) else ((laws_heldIntS.f k bt433.2 1).bind fun t445 => (if t445 < 0 then (none) else (if t445 = bt433.1 then (some true) else (none))))) else (none))))) else (none))))) else (none))))) else (none))))) else (none)))))) = some r := H
    have A7 := Aside0.mk A70
    clear A70
    replace H := Option.bind_eq_some_iff.mp H
    obtain ⟨⟨t411, t414⟩, A80, H⟩ := H
    replace H : ((laws_toLadder.f k a0_0 l0_1).bind fun bt415 => ((impl_TakeLine.f k bt415.1 bt415.2).bind fun bt420 => ((laws_eqIntS.f k bt420.1 t411).bind fun t424 => (if t424 = true then (if (bt420.2 != t414) = true then (none) else ((laws_toLadder.f k a0_0 l0_1).bind fun bt425 => ((laws_eqLadder.f k bt415.1 bt415.2 bt425.1 bt425.2).bind fun t429 => (if t429 = true then ((laws_markLadder.f k bt415.1 bt415.2 1).bind fun bt430 => (if bt430.1 < 0 then (none) else ((laws_eqIntS.f k bt420.1 t411).bind fun t432 => (if t432 = true then ((laws_markIntS.f k bt420.1 1).bind fun bt433 => ((laws_heldIntS.f k bt433.2 1).bind fun t435 => (if t435 < 0 then (none) else (if t435 = bt433.1 then ((laws_toLadder.f k a0_0 l0_1).bind fun bt436 => ((impl_TakeLine.f k bt436.1 bt436.2).bind fun bt440 => ((laws_eqIntS.f k bt440.1 t411).bind fun t444 => (if t444 = true then (if (bt440.2 != t414) = true then (none) else ((laws_heldIntS.f k bt433.2 1).bind fun t445 => (if t445 < 0 then (none) else (if t445 = bt433.1 then (some true) else (none))))) else (none))))) else (none))))) else (none))))) else (none))))) else (none))))) = some r := H
    have A8 := Aside0.mk A80
    clear A80
    replace H := Option.bind_eq_some_iff.mp H
    obtain ⟨⟨t415, t416⟩, A90, H⟩ := H
    replace H : ((impl_TakeLine.f k t415 t416).bind fun bt420 => ((laws_eqIntS.f k bt420.1 t411).bind fun t424 => (if t424 = true then (if (bt420.2 != t414) = true then (none) else ((laws_toLadder.f k a0_0 l0_1).bind fun bt425 => ((laws_eqLadder.f k t415 t416 bt425.1 bt425.2).bind fun t429 => (if t429 = true then ((laws_markLadder.f k t415 t416 1).bind fun bt430 => (if bt430.1 < 0 then (none) else ((laws_eqIntS.f k bt420.1 t411).bind fun t432 => (if t432 = true then ((laws_markIntS.f k bt420.1 1).bind fun bt433 => ((laws_heldIntS.f k bt433.2 1).bind fun t435 => (if t435 < 0 then (none) else (if t435 = bt433.1 then ((laws_toLadder.f k a0_0 l0_1).bind fun bt436 => ((impl_TakeLine.f k bt436.1 bt436.2).bind fun bt440 => ((laws_eqIntS.f k bt440.1 t411).bind fun t444 => (if t444 = true then (if (bt440.2 != t414) = true then (none) else ((laws_heldIntS.f k bt433.2 1).bind fun t445 => (if t445 < 0 then (none) else (if t445 = bt433.1 then (some true) else (none))))) else (none))))) else (none))))) else (none))))) else (none))))) else (none)))) = some r := H
    have A9 := Aside0.mk A90
    clear A90
    replace H := Option.bind_eq_some_iff.mp H
    obtain ⟨⟨t420, t423⟩, A100, H⟩ := H
    replace H : ((laws_eqIntS.f k t420 t411).bind fun t424 => (if t424 = true then (if (t423 != t414) = true then (none) else ((laws_toLadder.f k a0_0 l0_1).bind fun bt425 => ((laws_eqLadder.f k t415 t416 bt425.1 bt425.2).bind fun t429 => (if t429 = true then ((laws_markLadder.f k t415 t416 1).bind fun bt430 => (if bt430.1 < 0 then (none) else ((laws_eqIntS.f k t420 t411).bind fun t432 => (if t432 = true then ((laws_markIntS.f k t420 1).bind fun bt433 => ((laws_heldIntS.f k bt433.2 1).bind fun t435 => (if t435 < 0 then (none) else (if t435 = bt433.1 then ((laws_toLadder.f k a0_0 l0_1).bind fun bt436 => ((impl_TakeLine.f k bt436.1 bt436.2).bind fun bt440 => ((laws_eqIntS.f k bt440.1 t411).bind fun t444 => (if t444 = true then (if (bt440.2 != t414) = true then (none) else ((laws_heldIntS.f k bt433.2 1).bind fun t445 => (if t445 < 0 then (none) else (if t445 = bt433.1 then (some true) else (none))))) else (none))))) else (none))))) else (none))))) else (none))))) else (none))) = some r := H
    have A10 := Aside0.mk A100
    clear A100
    replace H := Option.bind_eq_some_iff.mp H
    obtain ⟨t424, A110, H⟩ := H
    replace H : (if t424 = true then (if (t423 != t414) = true then (none) else ((laws_toLadder.f k a0_0 l0_1).bind fun bt425 => ((laws_eqLadder.f k t415 t416 bt425.1 bt425.2).bind fun t429 => (if t429 = true then ((laws_markLadder.f k t415 t416 1).bind fun bt430 => (if bt430.1 < 0 then (none) else ((laws_eqIntS.f k t420 t411).bind fun t432 => (if t432 = true then ((laws_markIntS.f k t420 1).bind fun bt433 => ((laws_heldIntS.f k bt433.2 1).bind fun t435 => (if t435 < 0 then (none) else (if t435 = bt433.1 then ((laws_toLadder.f k a0_0 l0_1).bind fun bt436 => ((impl_TakeLine.f k bt436.1 bt436.2).bind fun bt440 => ((laws_eqIntS.f k bt440.1 t411).bind fun t444 => (if t444 = true then (if (bt440.2 != t414) = true then (none) else ((laws_heldIntS.f k bt433.2 1).bind fun t445 => (if t445 < 0 then (none) else (if t445 = bt433.1 then (some true) else (none))))) else (none))))) else (none))))) else (none))))) else (none))))) else (none)) = some r := H
    have A11 := Aside0.mk A110
    clear A110
    by_cases c12 : t424 = true
    · subst c12
      have H1 : (if (t423 != t414) = true then (none) else ((laws_toLadder.f k a0_0 l0_1).bind fun bt425 => ((laws_eqLadder.f k t415 t416 bt425.1 bt425.2).bind fun t429 => (if t429 = true then ((laws_markLadder.f k t415 t416 1).bind fun bt430 => (if bt430.1 < 0 then (none) else ((laws_eqIntS.f k t420 t411).bind fun t432 => (if t432 = true then ((laws_markIntS.f k t420 1).bind fun bt433 => ((laws_heldIntS.f k bt433.2 1).bind fun t435 => (if t435 < 0 then (none) else (if t435 = bt433.1 then ((laws_toLadder.f k a0_0 l0_1).bind fun bt436 => ((impl_TakeLine.f k bt436.1 bt436.2).bind fun bt440 => ((laws_eqIntS.f k bt440.1 t411).bind fun t444 => (if t444 = true then (if (bt440.2 != t414) = true then (none) else ((laws_heldIntS.f k bt433.2 1).bind fun t445 => (if t445 < 0 then (none) else (if t445 = bt433.1 then (some true) else (none))))) else (none))))) else (none))))) else (none))))) else (none))))) = some r := by rw [if_pos rfl] at H; exact H
      clear H
      have H := H1
      clear H1
      by_cases c13 : (t423 != t414) = true
      · rw [if_pos c13] at H
        exact absurd H (by simp)
      · rw [if_neg c13] at H
        have c13b0 : (t423 != t414) = false := by simpa using c13
        (try (have c13b1 : decide (t423 = t414) = true := by simpa using c13))
        (try (have c13b2 : (t423 == t414) = true := by simpa using c13))
        clear c13
        replace H := Option.bind_eq_some_iff.mp H
        obtain ⟨⟨t425, t426⟩, A140, H⟩ := H
        replace H : ((laws_eqLadder.f k t415 t416 t425 t426).bind fun t429 => (if t429 = true then ((laws_markLadder.f k t415 t416 1).bind fun bt430 => (if bt430.1 < 0 then (none) else ((laws_eqIntS.f k t420 t411).bind fun t432 => (if t432 = true then ((laws_markIntS.f k t420 1).bind fun bt433 => ((laws_heldIntS.f k bt433.2 1).bind fun t435 => (if t435 < 0 then (none) else (if t435 = bt433.1 then ((laws_toLadder.f k a0_0 l0_1).bind fun bt436 => ((impl_TakeLine.f k bt436.1 bt436.2).bind fun bt440 => ((laws_eqIntS.f k bt440.1 t411).bind fun t444 => (if t444 = true then (if (bt440.2 != t414) = true then (none) else ((laws_heldIntS.f k bt433.2 1).bind fun t445 => (if t445 < 0 then (none) else (if t445 = bt433.1 then (some true) else (none))))) else (none))))) else (none))))) else (none))))) else (none))) = some r := H
        have A14 := Aside0.mk A140
        clear A140
        replace H := Option.bind_eq_some_iff.mp H
        obtain ⟨t429, A150, H⟩ := H
        replace H : (if t429 = true then ((laws_markLadder.f k t415 t416 1).bind fun bt430 => (if bt430.1 < 0 then (none) else ((laws_eqIntS.f k t420 t411).bind fun t432 => (if t432 = true then ((laws_markIntS.f k t420 1).bind fun bt433 => ((laws_heldIntS.f k bt433.2 1).bind fun t435 => (if t435 < 0 then (none) else (if t435 = bt433.1 then ((laws_toLadder.f k a0_0 l0_1).bind fun bt436 => ((impl_TakeLine.f k bt436.1 bt436.2).bind fun bt440 => ((laws_eqIntS.f k bt440.1 t411).bind fun t444 => (if t444 = true then (if (bt440.2 != t414) = true then (none) else ((laws_heldIntS.f k bt433.2 1).bind fun t445 => (if t445 < 0 then (none) else (if t445 = bt433.1 then (some true) else (none))))) else (none))))) else (none))))) else (none))))) else (none)) = some r := H
        have A15 := Aside0.mk A150
        clear A150
        by_cases c16 : t429 = true
        · subst c16
          have H1 : ((laws_markLadder.f k t415 t416 1).bind fun bt430 => (if bt430.1 < 0 then (none) else ((laws_eqIntS.f k t420 t411).bind fun t432 => (if t432 = true then ((laws_markIntS.f k t420 1).bind fun bt433 => ((laws_heldIntS.f k bt433.2 1).bind fun t435 => (if t435 < 0 then (none) else (if t435 = bt433.1 then ((laws_toLadder.f k a0_0 l0_1).bind fun bt436 => ((impl_TakeLine.f k bt436.1 bt436.2).bind fun bt440 => ((laws_eqIntS.f k bt440.1 t411).bind fun t444 => (if t444 = true then (if (bt440.2 != t414) = true then (none) else ((laws_heldIntS.f k bt433.2 1).bind fun t445 => (if t445 < 0 then (none) else (if t445 = bt433.1 then (some true) else (none))))) else (none))))) else (none))))) else (none))))) = some r := by rw [if_pos rfl] at H; exact H
          clear H
          have H := H1
          clear H1
          replace H := Option.bind_eq_some_iff.mp H
          obtain ⟨⟨t430, t431⟩, A170, H⟩ := H
          replace H : (if t430 < 0 then (none) else ((laws_eqIntS.f k t420 t411).bind fun t432 => (if t432 = true then ((laws_markIntS.f k t420 1).bind fun bt433 => ((laws_heldIntS.f k bt433.2 1).bind fun t435 => (if t435 < 0 then (none) else (if t435 = bt433.1 then ((laws_toLadder.f k a0_0 l0_1).bind fun bt436 => ((impl_TakeLine.f k bt436.1 bt436.2).bind fun bt440 => ((laws_eqIntS.f k bt440.1 t411).bind fun t444 => (if t444 = true then (if (bt440.2 != t414) = true then (none) else ((laws_heldIntS.f k bt433.2 1).bind fun t445 => (if t445 < 0 then (none) else (if t445 = bt433.1 then (some true) else (none))))) else (none))))) else (none))))) else (none)))) = some r := H
          have A17 := Aside0.mk A170
          clear A170
          by_cases c18 : t430 < 0
          · rw [if_pos c18] at H
            exact absurd H (by simp)
          · rw [if_neg c18] at H
            have c18b0 : decide (t430 < 0) = false := decide_eq_false c18
            clear c18
            replace H := Option.bind_eq_some_iff.mp H
            obtain ⟨t432, A190, H⟩ := H
            replace H : (if t432 = true then ((laws_markIntS.f k t420 1).bind fun bt433 => ((laws_heldIntS.f k bt433.2 1).bind fun t435 => (if t435 < 0 then (none) else (if t435 = bt433.1 then ((laws_toLadder.f k a0_0 l0_1).bind fun bt436 => ((impl_TakeLine.f k bt436.1 bt436.2).bind fun bt440 => ((laws_eqIntS.f k bt440.1 t411).bind fun t444 => (if t444 = true then (if (bt440.2 != t414) = true then (none) else ((laws_heldIntS.f k bt433.2 1).bind fun t445 => (if t445 < 0 then (none) else (if t445 = bt433.1 then (some true) else (none))))) else (none))))) else (none))))) else (none)) = some r := H
            have A19 := Aside0.mk A190
            clear A190
            by_cases c20 : t432 = true
            · subst c20
              have H1 : ((laws_markIntS.f k t420 1).bind fun bt433 => ((laws_heldIntS.f k bt433.2 1).bind fun t435 => (if t435 < 0 then (none) else (if t435 = bt433.1 then ((laws_toLadder.f k a0_0 l0_1).bind fun bt436 => ((impl_TakeLine.f k bt436.1 bt436.2).bind fun bt440 => ((laws_eqIntS.f k bt440.1 t411).bind fun t444 => (if t444 = true then (if (bt440.2 != t414) = true then (none) else ((laws_heldIntS.f k bt433.2 1).bind fun t445 => (if t445 < 0 then (none) else (if t445 = bt433.1 then (some true) else (none))))) else (none))))) else (none))))) = some r := by rw [if_pos rfl] at H; exact H
              clear H
              have H := H1
              clear H1
              replace H := Option.bind_eq_some_iff.mp H
              obtain ⟨⟨t433, t434⟩, A210, H⟩ := H
              replace H : ((laws_heldIntS.f k t434 1).bind fun t435 => (if t435 < 0 then (none) else (if t435 = t433 then ((laws_toLadder.f k a0_0 l0_1).bind fun bt436 => ((impl_TakeLine.f k bt436.1 bt436.2).bind fun bt440 => ((laws_eqIntS.f k bt440.1 t411).bind fun t444 => (if t444 = true then (if (bt440.2 != t414) = true then (none) else ((laws_heldIntS.f k t434 1).bind fun t445 => (if t445 < 0 then (none) else (if t445 = t433 then (some true) else (none))))) else (none))))) else (none)))) = some r := H
              have A21 := Aside0.mk A210
              clear A210
              replace H := Option.bind_eq_some_iff.mp H
              obtain ⟨t435, A220, H⟩ := H
              replace H : (if t435 < 0 then (none) else (if t435 = t433 then ((laws_toLadder.f k a0_0 l0_1).bind fun bt436 => ((impl_TakeLine.f k bt436.1 bt436.2).bind fun bt440 => ((laws_eqIntS.f k bt440.1 t411).bind fun t444 => (if t444 = true then (if (bt440.2 != t414) = true then (none) else ((laws_heldIntS.f k t434 1).bind fun t445 => (if t445 < 0 then (none) else (if t445 = t433 then (some true) else (none))))) else (none))))) else (none))) = some r := H
              have A22 := Aside0.mk A220
              clear A220
              by_cases c23 : t435 < 0
              · rw [if_pos c23] at H
                exact absurd H (by simp)
              · rw [if_neg c23] at H
                have c23b0 : decide (t435 < 0) = false := decide_eq_false c23
                clear c23
                by_cases c24 : t435 = t433
                · rw [if_pos c24] at H
                  have c24b0 : (t435 == t433) = true := beq_iff_eq.mpr c24
                  have c24b1 : (t435 != t433) = false := bne_eq_false_iff_eq.mpr c24
                  clear c24
                  replace H := Option.bind_eq_some_iff.mp H
                  obtain ⟨⟨t436, t437⟩, A250, H⟩ := H
                  replace H : ((impl_TakeLine.f k t436 t437).bind fun bt440 => ((laws_eqIntS.f k bt440.1 t411).bind fun t444 => (if t444 = true then (if (bt440.2 != t414) = true then (none) else ((laws_heldIntS.f k t434 1).bind fun t445 => (if t445 < 0 then (none) else (if t445 = t433 then (some true) else (none))))) else (none)))) = some r := H
                  have A25 := Aside0.mk A250
                  clear A250
                  replace H := Option.bind_eq_some_iff.mp H
                  obtain ⟨⟨t440, t443⟩, A260, H⟩ := H
                  replace H : ((laws_eqIntS.f k t440 t411).bind fun t444 => (if t444 = true then (if (t443 != t414) = true then (none) else ((laws_heldIntS.f k t434 1).bind fun t445 => (if t445 < 0 then (none) else (if t445 = t433 then (some true) else (none))))) else (none))) = some r := H
                  have A26 := Aside0.mk A260
                  clear A260
                  replace H := Option.bind_eq_some_iff.mp H
                  obtain ⟨t444, A270, H⟩ := H
                  replace H : (if t444 = true then (if (t443 != t414) = true then (none) else ((laws_heldIntS.f k t434 1).bind fun t445 => (if t445 < 0 then (none) else (if t445 = t433 then (some true) else (none))))) else (none)) = some r := H
                  have A27 := Aside0.mk A270
                  clear A270
                  by_cases c28 : t444 = true
                  · subst c28
                    have H1 : (if (t443 != t414) = true then (none) else ((laws_heldIntS.f k t434 1).bind fun t445 => (if t445 < 0 then (none) else (if t445 = t433 then (some true) else (none))))) = some r := by rw [if_pos rfl] at H; exact H
                    clear H
                    have H := H1
                    clear H1
                    by_cases c29 : (t443 != t414) = true
                    · rw [if_pos c29] at H
                      exact absurd H (by simp)
                    · rw [if_neg c29] at H
                      have c29b0 : (t443 != t414) = false := by simpa using c29
                      (try (have c29b1 : decide (t443 = t414) = true := by simpa using c29))
                      (try (have c29b2 : (t443 == t414) = true := by simpa using c29))
                      clear c29
                      replace H := Option.bind_eq_some_iff.mp H
                      obtain ⟨t445, A300, H⟩ := H
                      replace H : (if t445 < 0 then (none) else (if t445 = t433 then (some true) else (none))) = some r := H
                      have A30 := Aside0.mk A300
                      clear A300
                      by_cases c31 : t445 < 0
                      · rw [if_pos c31] at H
                        exact absurd H (by simp)
                      · rw [if_neg c31] at H
                        have c31b0 : decide (t445 < 0) = false := decide_eq_false c31
                        clear c31
                        by_cases c32 : t445 = t433
                        · rw [if_pos c32] at H
                          have c32b0 : (t445 == t433) = true := beq_iff_eq.mpr c32
                          have c32b1 : (t445 != t433) = false := bne_eq_false_iff_eq.mpr c32
                          clear c32
                          obtain rfl := Option.some.inj H
                          go_enter Try.func9, Try.ntmps9
                          try go_wp2_with (first | ((with_reducible refine gate_dst (N := 1) rfl ?_); refine box_event ?hg (N := 1) ?hd (cs := #[.int .i64 a0_0, .slice A0_1 l0_1.length c0_1]) (t := 24) ?hr ?_; (case hd => rfl); (case hg => rfl); (case hr => first | (go_simp; done) | (go_simp; rfl)); intro gb405 hg w33 hbox hb; have n0_ := Aside0.mk (below_step (by repeat (first | (with_reducible first | exact HB.out | apply below_alloc | apply pw_below_drewN | apply below_drew1) | exact HB.out)) hb); have n1_ := Aside0.mk (hbox); have n2_ := Aside0.mk ((by rw [hg]; exact (below_size (by repeat (first | (with_reducible first | exact HB.out | apply below_alloc | apply pw_below_drewN | apply below_drew1) | exact HB.out))) : w.heap.size ≤ gb405)); have n3_ := Aside0.mk ((by rw [hg]; exact (below_size (by repeat (first | (with_reducible first | exact HB.out | apply below_alloc | apply pw_below_drewN | apply below_drew1) | exact HB.out))) : w.heap.size ≤ gb405)); clear HB; have HB := n0_; have BK405 := n1_; have GW405 := n2_; have GE405 := n3_; clear n0_ n1_ n2_ n3_; clear hb hbox hg; have hcz34_0 : w33.cell? ⟨gb405, 0, none⟩ = some (.int .i64 a0_0) := (blk_cell BK405.out 0).trans rfl; have hcz34_1 : w33.cell? ⟨gb405, 1, none⟩ = some (.slice A0_1 l0_1.length c0_1) := (blk_cell BK405.out 1).trans rfl; have hfz34_0 := blk_frozen BK405.out 0; have hfz34_1 := blk_frozen BK405.out 1) | ((with_reducible refine gate_callee (f := 10) rfl ?_); refine goesL_ (some 16) rfl rfl Try.func10 (by kernel_rfl) rfl #[.agg #[.int .i64 a0_0, .slice A0_1 l0_1.length c0_1], .int .i64 1048576] rfl (by (try simp only [List.map_toArray, List.map_cons, List.map_nil]); first | done | rfl | (simp only [List.length_drop, List.length_take]; rfl)) ?_; (with_reducible refine (laws_szLadder.calls a0_0 _ _ l0_1 1048576 t406 _ ?side1 ?side2 A2.out).mono ?_); (case side1 => repeat (first | exact (Kd.C_below HR0_1.out HB.out) | (with_reducible refine Kd.C_alloc ?_ _) | (with_reducible refine Kd.C_drewN ?_ _) | (with_reducible refine Kd.C_drew ?_))); (case side2 => exact HC0_1.out); rintro e w35 ⟨rfl, hb⟩; refine ⟨_, rfl, ?_⟩; have n0_ := Aside0.mk (blk_below (g := gb405) (o := .cells #[.int .i64 a0_0, .slice A0_1 l0_1.length c0_1] 24 (0, 0)) (by (with_reducible repeat (first | refine blk_drewN ?_ _ | refine blk_drew ?_ | refine blk_alloc ?_ _)); exact BK405.out) hb); have n1_ := Aside0.mk (below_step (by repeat (first | (with_reducible first | exact HB.out | apply below_alloc | apply pw_below_drewN | apply below_drew1 | refine below_set ?_ GE405.out) | exact HB.out)) hb); clear BK405; clear HB; have BK405 := n0_; have HB := n1_; clear n0_ n1_; (try clear hb); (try clear hb2); (try clear hk); (try clear hi); have hcz36_0 : w35.cell? ⟨gb405, 0, none⟩ = some (.int .i64 a0_0) := (blk_cell BK405.out 0).trans rfl; have hcz36_1 : w35.cell? ⟨gb405, 1, none⟩ = some (.slice A0_1 l0_1.length c0_1) := (blk_cell BK405.out 1).trans rfl; have hfz36_0 := blk_frozen BK405.out 0; have hfz36_1 := blk_frozen BK405.out 1) | ((with_reducible refine gate_callee (f := 12) rfl ?_); refine goesL_ (some 21) rfl rfl Try.func12 (by kernel_rfl) rfl #[.agg #[.int .i64 a0_0, .slice A0_1 l0_1.length c0_1]] rfl (by (try simp only [List.map_toArray, List.map_cons, List.map_nil]); first | done | rfl | (simp only [List.length_drop, List.length_take]; rfl)) ?_; (with_reducible refine (laws_toLadder.calls k a0_0 _ _ l0_1 t407 t408 _ ?side1 ?side2 A7.out).mono ?_); (case side1 => repeat (first | exact (Kd.C_below HR0_1.out HB.out) | (with_reducible refine Kd.C_alloc ?_ _) | (with_reducible refine Kd.C_drewN ?_ _) | (with_reducible refine Kd.C_drew ?_))); (case side2 => exact HC0_1.out); rintro e w37 ⟨v409, rfl, ho0, hb⟩; refine ⟨_, rfl, ?_⟩; have n0_ := Aside0.mk (Kd.R_lower ho0 (below_size (by repeat (first | (with_reducible first | exact HB.out | apply below_alloc | apply pw_below_drewN | apply below_drew1 | refine below_set ?_ GE405.out) | exact HB.out)))); have n1_ := Aside0.mk (blk_below (g := gb405) (o := .cells #[.int .i64 a0_0, .slice A0_1 l0_1.length c0_1] 24 (0, 0)) (by (with_reducible repeat (first | refine blk_drewN ?_ _ | refine blk_drew ?_ | refine blk_alloc ?_ _)); exact BK405.out) hb); have n2_ := Aside0.mk (below_step (by repeat (first | (with_reducible first | exact HB.out | apply below_alloc | apply pw_below_drewN | apply below_drew1 | refine below_set ?_ GE405.out) | exact HB.out)) hb); clear BK405; clear HB; have HO410 := n0_; have BK405 := n1_; have HB := n2_; clear n0_ n1_ n2_; (try clear hb); (try clear hb2); (try clear hk); (try clear hi); (try clear ho0); obtain ⟨Ao38, co38, eo38⟩ := Kd.R_slice HO410.out; subst eo38) | ((with_reducible refine gate_callee (f := 31) rfl ?_); refine goesL_ (some 22) rfl rfl Try.func31 (by kernel_rfl) rfl #[.agg #[.int .i64 t407, .slice Ao38 t408.length co38]] rfl (by (try simp only [List.map_toArray, List.map_cons, List.map_nil]); first | done | rfl | (simp only [List.length_drop, List.length_take]; rfl)) ?_; (with_reducible refine (spec_TakeLine.calls k t407 _ _ t408 t411 t414 _ ?side1 ?side2 A8.out).mono ?_); (case side1 => repeat (first | exact (Kd.R_reads' HO410.out).2.2 | (with_reducible refine Kd.C_alloc ?_ _) | (with_reducible refine Kd.C_drewN ?_ _) | (with_reducible refine Kd.C_drew ?_))); (case side2 => exact (Kd.R_reads' HO410.out).2.1); rintro e w39 ⟨v412, rfl, ho0, hb⟩; refine ⟨_, rfl, ?_⟩; have n0_ := Aside0.mk (Kd.R_elder' (by (with_reducible repeat (first | apply Kd.R_alloc | apply Kd.R_drewN | apply Kd.R_drew)); exact HO410.out) (Kd.R_base ho0) hb); have n1_ := Aside0.mk (Kd.R_lower (Kd.R_new' ho0 (Kd.R_lt (by (with_reducible repeat (first | apply Kd.R_alloc | apply Kd.R_drewN | apply Kd.R_drew)); exact HO410.out))) (below_size (by repeat (first | (with_reducible first | exact HB.out | apply below_alloc | apply pw_below_drewN | apply below_drew1 | refine below_set ?_ GE405.out) | exact HB.out)))); have n2_ := Aside0.mk (blk_below (g := gb405) (o := .cells #[.int .i64 a0_0, .slice A0_1 l0_1.length c0_1] 24 (0, 0)) (by (with_reducible repeat (first | refine blk_drewN ?_ _ | refine blk_drew ?_ | refine blk_alloc ?_ _)); exact BK405.out) hb); have n3_ := Aside0.mk (below_step (by repeat (first | (with_reducible first | exact HB.out | apply below_alloc | apply pw_below_drewN | apply below_drew1 | refine below_set ?_ GE405.out) | exact HB.out)) hb); clear HO410; clear BK405; clear HB; have HO410 := n0_; have HO413 := n1_; have BK405 := n2_; have HB := n3_; clear n0_ n1_ n2_ n3_; (try clear hb); (try clear hb2); (try clear hk); (try clear hi); (try clear ho0); have hcz40_0 : w39.cell? ⟨gb405, 0, none⟩ = some (.int .i64 a0_0) := (blk_cell BK405.out 0).trans rfl; have hcz40_1 : w39.cell? ⟨gb405, 1, none⟩ = some (.slice A0_1 l0_1.length c0_1) := (blk_cell BK405.out 1).trans rfl; have hfz40_0 := blk_frozen BK405.out 0; have hfz40_1 := blk_frozen BK405.out 1) | ((with_reducible refine gate_callee (f := 12) rfl ?_); refine goesL_ (some 26) rfl rfl Try.func12 (by kernel_rfl) rfl #[.agg #[.int .i64 a0_0, .slice A0_1 l0_1.length c0_1]] rfl (by (try simp only [List.map_toArray, List.map_cons, List.map_nil]); first | done | rfl | (simp only [List.length_drop, List.length_take]; rfl)) ?_; (with_reducible refine (laws_toLadder.calls k a0_0 _ _ l0_1 t415 t416 _ ?side1 ?side2 A9.out).mono ?_); (case side1 => repeat (first | exact (Kd.C_below HR0_1.out HB.out) | (with_reducible refine Kd.C_alloc ?_ _) | (with_reducible refine Kd.C_drewN ?_ _) | (with_reducible refine Kd.C_drew ?_))); (case side2 => exact HC0_1.out); rintro e w41 ⟨v417, rfl, ho0, hb⟩; refine ⟨_, rfl, ?_⟩; have n0_ := Aside0.mk (Kd.R_elder' (by (with_reducible repeat (first | apply Kd.R_alloc | apply Kd.R_drewN | apply Kd.R_drew)); exact HO410.out) (Kd.R_base ho0) hb); have n1_ := Aside0.mk (Kd.R_elder' (by (with_reducible repeat (first | apply Kd.R_alloc | apply Kd.R_drewN | apply Kd.R_drew)); exact HO413.out) (Kd.R_base ho0) hb); have n2_ := Aside0.mk (Kd.R_lower (Kd.R_new' (Kd.R_new' ho0 (Kd.R_lt (by (with_reducible repeat (first | apply Kd.R_alloc | apply Kd.R_drewN | apply Kd.R_drew)); exact HO410.out))) (Kd.R_lt (by (with_reducible repeat (first | apply Kd.R_alloc | apply Kd.R_drewN | apply Kd.R_drew)); exact HO413.out))) (below_size (by repeat (first | (with_reducible first | exact HB.out | apply below_alloc | apply pw_below_drewN | apply below_drew1 | refine below_set ?_ GE405.out) | exact HB.out)))); have n3_ := Aside0.mk (blk_below (g := gb405) (o := .cells #[.int .i64 a0_0, .slice A0_1 l0_1.length c0_1] 24 (0, 0)) (by (with_reducible repeat (first | refine blk_drewN ?_ _ | refine blk_drew ?_ | refine blk_alloc ?_ _)); exact BK405.out) hb); have n4_ := Aside0.mk (below_step (by repeat (first | (with_reducible first | exact HB.out | apply below_alloc | apply pw_below_drewN | apply below_drew1 | refine below_set ?_ GE405.out) | exact HB.out)) hb); clear HO410; clear HO413; clear BK405; clear HB; have HO410 := n0_; have HO413 := n1_; have HO418 := n2_; have BK405 := n3_; have HB := n4_; clear n0_ n1_ n2_ n3_ n4_; (try clear hb); (try clear hb2); (try clear hk); (try clear hi); (try clear ho0)) | ((with_reducible refine gate_dst (N := 6) rfl ?_); refine box_event ?hg (N := 6) ?hd (cs := #[.int .i64 0, .slice none 0 0]) (t := 28) ?hr ?_; (case hd => rfl); (case hg => rfl); (case hr => first | (go_simp; done) | (go_simp; rfl)); intro gb419 hg w42 hbox hb; have n0_ := Aside0.mk (Kd.R_below (by (with_reducible repeat (first | apply Kd.R_alloc | apply Kd.R_drewN | apply Kd.R_drew)); exact HO410.out) hb); have n1_ := Aside0.mk (Kd.R_below (by (with_reducible repeat (first | apply Kd.R_alloc | apply Kd.R_drewN | apply Kd.R_drew)); exact HO413.out) hb); have n2_ := Aside0.mk (Kd.R_below (by (with_reducible repeat (first | apply Kd.R_alloc | apply Kd.R_drewN | apply Kd.R_drew)); exact HO418.out) hb); have n3_ := Aside0.mk (blk_below (g := gb405) (o := .cells #[.int .i64 a0_0, .slice A0_1 l0_1.length c0_1] 24 (0, 0)) (by (with_reducible repeat (first | refine blk_drewN ?_ _ | refine blk_drew ?_ | refine blk_alloc ?_ _)); exact BK405.out) hb); have n4_ := Aside0.mk (below_step (by repeat (first | (with_reducible first | exact HB.out | apply below_alloc | apply pw_below_drewN | apply below_drew1 | refine below_set ?_ GE405.out) | exact HB.out)) hb); have n5_ := Aside0.mk (hbox); have n6_ := Aside0.mk ((by rw [hg]; exact (below_size (by repeat (first | (with_reducible first | exact HB.out | apply below_alloc | apply pw_below_drewN | apply below_drew1 | refine below_set ?_ GE405.out) | exact HB.out))) : w.heap.size ≤ gb419)); have n7_ := Aside0.mk ((by rw [hg]; exact (below_size (by repeat (first | (with_reducible first | exact HB.out | apply below_alloc | apply pw_below_drewN | apply below_drew1 | refine below_set ?_ GE405.out) | exact HB.out))) : w.heap.size ≤ gb419)); have n8_ := Aside0.mk ((by rw [hg]; exact Nat.ne_of_lt (blk_lt (g := gb405) (o := .cells #[.int .i64 a0_0, .slice A0_1 l0_1.length c0_1] 24 (0, 0)) (by (with_reducible repeat (first | refine blk_drewN ?_ _ | refine blk_drew ?_ | refine blk_alloc ?_ _)); exact BK405.out)) : gb405 ≠ gb419)); have n9_ := Aside0.mk ((by rw [hg]; exact Nat.ne_of_gt (blk_lt (g := gb405) (o := .cells #[.int .i64 a0_0, .slice A0_1 l0_1.length c0_1] 24 (0, 0)) (by (with_reducible repeat (first | refine blk_drewN ?_ _ | refine blk_drew ?_ | refine blk_alloc ?_ _)); exact BK405.out)) : gb419 ≠ gb405)); clear HO410; clear HO413; clear HO418; clear BK405; clear HB; have HO410 := n0_; have HO413 := n1_; have HO418 := n2_; have BK405 := n3_; have HB := n4_; have BK419 := n5_; have GW419 := n6_; have GE419 := n7_; have NB405_419 := n8_; have NB419_405 := n9_; clear n0_ n1_ n2_ n3_ n4_ n5_ n6_ n7_ n8_ n9_; clear hb hbox hg; have hnb43 := NB419_405.out; have hnc43 := NB405_419.out; have hcz44_0 : w42.cell? ⟨gb419, 0, none⟩ = some (.int .i64 0) := (blk_cell BK419.out 0).trans rfl; have hcz44_1 : w42.cell? ⟨gb419, 1, none⟩ = some (.slice none 0 0) := (blk_cell BK419.out 1).trans rfl; have hfz44_0 := blk_frozen BK419.out 0; have hfz44_1 := blk_frozen BK419.out 1; obtain ⟨Ao45, co45, eo45⟩ := Kd.R_slice HO418.out; subst eo45) | ((with_reducible refine gate_callee (f := 32) rfl ?_); refine goesL_ (some 29) rfl rfl Try.func32 (by kernel_rfl) rfl #[.agg #[.int .i64 t415, .slice Ao45 t416.length co45]] rfl (by (try simp only [List.map_toArray, List.map_cons, List.map_nil]); first | done | rfl | (simp only [List.length_drop, List.length_take]; rfl)) ?_; (with_reducible refine (impl_TakeLine.calls k t415 _ _ t416 t420 t423 _ ?side1 ?side2 A10.out).mono ?_); (case side1 => refine (Kd.R_reads' (e := 3) (base := w.heap.size) (ok := fun k_ => ((True ∧ some k_ ≠ (.slice Ao38 t408.length co38 : Value).ownBlock) ∧ some k_ ≠ (v412 : Value).ownBlock)) (n := t416.length) (c := co45) ?_).2.2; exact (by (with_reducible repeat (first | apply Kd.R_alloc | apply Kd.R_drewN | apply Kd.R_drew)); exact (Kd.R_mono (Kd.R_far (p := ⟨gb419, 1, none⟩) (Kd.R_far (p := ⟨gb419, 0, none⟩) (Kd.R_types HO418.out BK419.out (by decide)) (fun _ hk => hk.2) (.int .i64 t415)) (fun _ hk => hk.2) (.slice Ao45 t416.length co45)) (fun _ h_ => h_.1)))); (case side2 => exact (Kd.R_reads' HO418.out).2.1); rintro e w46 ⟨v421, rfl, ho0, hb⟩; refine ⟨_, rfl, ?_⟩; have n0_ := Aside0.mk (Kd.R_elder' (by (with_reducible repeat (first | apply Kd.R_alloc | apply Kd.R_drewN | apply Kd.R_drew)); exact (Kd.R_mono (Kd.R_far (p := ⟨gb419, 1, none⟩) (Kd.R_far (p := ⟨gb419, 0, none⟩) (Kd.R_types HO410.out BK419.out (by decide)) (fun _ hk => hk.2) (.int .i64 t415)) (fun _ hk => hk.2) (.slice Ao45 t416.length co45)) (fun _ h_ => h_.1))) (Kd.R_base ho0) hb); have n1_ := Aside0.mk (Kd.R_elder' (by (with_reducible repeat (first | apply Kd.R_alloc | apply Kd.R_drewN | apply Kd.R_drew)); exact (Kd.R_mono (Kd.R_far (p := ⟨gb419, 1, none⟩) (Kd.R_far (p := ⟨gb419, 0, none⟩) (Kd.R_types HO413.out BK419.out (by decide)) (fun _ hk => hk.2) (.int .i64 t415)) (fun _ hk => hk.2) (.slice Ao45 t416.length co45)) (fun _ h_ => h_.1))) (Kd.R_base ho0) hb); have n2_ := Aside0.mk (Kd.R_elder' (by (with_reducible repeat (first | apply Kd.R_alloc | apply Kd.R_drewN | apply Kd.R_drew)); exact (Kd.R_mono (Kd.R_far (p := ⟨gb419, 1, none⟩) (Kd.R_far (p := ⟨gb419, 0, none⟩) (Kd.R_types HO418.out BK419.out (by decide)) (fun _ hk => hk.2) (.int .i64 t415)) (fun _ hk => hk.2) (.slice Ao45 t416.length co45)) (fun _ h_ => h_.1))) (Kd.R_base ho0) hb); have n3_ := Aside0.mk (Kd.R_lower (Kd.R_new' (Kd.R_new' (Kd.R_new' ho0 (Kd.R_lt (by (with_reducible repeat (first | apply Kd.R_alloc | apply Kd.R_drewN | apply Kd.R_drew)); exact (Kd.R_mono (Kd.R_far (p := ⟨gb419, 1, none⟩) (Kd.R_far (p := ⟨gb419, 0, none⟩) (Kd.R_types HO410.out BK419.out (by decide)) (fun _ hk => hk.2) (.int .i64 t415)) (fun _ hk => hk.2) (.slice Ao45 t416.length co45)) (fun _ h_ => h_.1))))) (Kd.R_lt (by (with_reducible repeat (first | apply Kd.R_alloc | apply Kd.R_drewN | apply Kd.R_drew)); exact (Kd.R_mono (Kd.R_far (p := ⟨gb419, 1, none⟩) (Kd.R_far (p := ⟨gb419, 0, none⟩) (Kd.R_types HO413.out BK419.out (by decide)) (fun _ hk => hk.2) (.int .i64 t415)) (fun _ hk => hk.2) (.slice Ao45 t416.length co45)) (fun _ h_ => h_.1))))) (Kd.R_lt (by (with_reducible repeat (first | apply Kd.R_alloc | apply Kd.R_drewN | apply Kd.R_drew)); exact (Kd.R_mono (Kd.R_far (p := ⟨gb419, 1, none⟩) (Kd.R_far (p := ⟨gb419, 0, none⟩) (Kd.R_types HO418.out BK419.out (by decide)) (fun _ hk => hk.2) (.int .i64 t415)) (fun _ hk => hk.2) (.slice Ao45 t416.length co45)) (fun _ h_ => h_.1))))) (below_size (by repeat (first | (with_reducible first | exact HB.out | apply below_alloc | apply pw_below_drewN | apply below_drew1 | refine below_set ?_ GE405.out | refine below_set ?_ GE419.out) | exact HB.out)))); have n4_ := Aside0.mk (blk_below (g := gb405) (o := .cells #[.int .i64 a0_0, .slice A0_1 l0_1.length c0_1] 24 (0, 0)) (by (with_reducible repeat (first | refine blk_drewN ?_ _ | refine blk_drew ?_ | refine blk_alloc ?_ _)); refine blk_far ?_ NB405_419.out _; (with_reducible repeat (first | refine blk_drewN ?_ _ | refine blk_drew ?_ | refine blk_alloc ?_ _)); refine blk_far ?_ NB405_419.out _; (with_reducible repeat (first | refine blk_drewN ?_ _ | refine blk_drew ?_ | refine blk_alloc ?_ _)); exact BK405.out) hb); have n5_ := Aside0.mk (blk_below (g := gb419) (o := .cells #[.int .i64 t415, .slice Ao45 t416.length co45] 28 (0, 0)) (by (with_reducible repeat (first | refine blk_drewN ?_ _ | refine blk_drew ?_ | refine blk_alloc ?_ _)); refine blk_put (cs := #[.int .i64 t415, .slice none 0 0]) ?_ 1 _ rfl; (with_reducible repeat (first | refine blk_drewN ?_ _ | refine blk_drew ?_ | refine blk_alloc ?_ _)); refine blk_put (cs := #[.int .i64 0, .slice none 0 0]) ?_ 0 _ rfl; (with_reducible repeat (first | refine blk_drewN ?_ _ | refine blk_drew ?_ | refine blk_alloc ?_ _)); exact BK419.out) hb); have n6_ := Aside0.mk (below_step (by repeat (first | (with_reducible first | exact HB.out | apply below_alloc | apply pw_below_drewN | apply below_drew1 | refine below_set ?_ GE405.out | refine below_set ?_ GE419.out) | exact HB.out)) hb); clear HO410; clear HO413; clear HO418; clear BK405; clear BK419; clear HB; have HO410 := n0_; have HO413 := n1_; have HO418 := n2_; have HO422 := n3_; have BK405 := n4_; have BK419 := n5_; have HB := n6_; clear n0_ n1_ n2_ n3_ n4_ n5_ n6_; (try clear hb); (try clear hb2); (try clear hk); (try clear hi); (try clear ho0); obtain ⟨Ao47, co47, eo47⟩ := Kd.R_slice HO422.out; subst eo47; obtain ⟨Ao48, co48, eo48⟩ := Kd.R_slice HO413.out; subst eo48) | ((with_reducible refine gate_callee (f := 18) rfl ?_); refine goesL_ (some 34) rfl rfl Try.func18 (by kernel_rfl) rfl #[.slice Ao47 t420.length co47, .slice Ao48 t411.length co48] rfl (by (try simp only [List.map_toArray, List.map_cons, List.map_nil]); first | done | rfl | (simp only [List.length_drop, List.length_take]; rfl)) ?_; (with_reducible refine (laws_eqIntS.calls k _ _ t420 _ _ t411 true _ ?side1 ?side2 ?side3 ?side4 A11.out).mono ?_); (case side1 => repeat (first | exact (Kd.R_reads' HO422.out).2.2 | (with_reducible refine Kd.C_alloc ?_ _) | (with_reducible refine Kd.C_drewN ?_ _) | (with_reducible refine Kd.C_drew ?_))); (case side2 => exact (Kd.R_reads' HO422.out).2.1); (case side3 => repeat (first | exact (Kd.R_reads' HO413.out).2.2 | (with_reducible refine Kd.C_alloc ?_ _) | (with_reducible refine Kd.C_drewN ?_ _) | (with_reducible refine Kd.C_drew ?_))); (case side4 => exact (Kd.R_reads' HO413.out).2.1); rintro e w' ⟨rfl, ⟨nd, rfl⟩⟩; refine ⟨_, rfl, ?_⟩))
                          (try (rw [drewN_self w46]; generalize hq_ : World.drewN w46 _ = w46; have n0_ : Aside0 (Kd.R (Kd.int .i64) 3 w46 w.heap.size (fun k_ => some k_ ≠ (.slice Ao48 t411.length co48 : Value).ownBlock ∧ some k_ ≠ (.slice Ao45 t416.length co45 : Value).ownBlock ∧ some k_ ≠ (.slice Ao47 t420.length co47 : Value).ownBlock) (.slice Ao38 t408.length co38) t408) := ⟨by rw [← hq_]; exact (by (with_reducible repeat (first | apply Kd.R_alloc | apply Kd.R_drewN | apply Kd.R_drew)); exact Kd.R_mono HO410.out (fun _ hk => ⟨hk.1.1.2, ⟨hk.1.2, hk.2⟩⟩))⟩; have n1_ : Aside0 (Kd.R (Kd.int .i64) 3 w46 w.heap.size (fun k_ => some k_ ≠ (.slice Ao38 t408.length co38 : Value).ownBlock ∧ some k_ ≠ (.slice Ao45 t416.length co45 : Value).ownBlock ∧ some k_ ≠ (.slice Ao47 t420.length co47 : Value).ownBlock) (.slice Ao48 t411.length co48) t411) := ⟨by rw [← hq_]; exact (by (with_reducible repeat (first | apply Kd.R_alloc | apply Kd.R_drewN | apply Kd.R_drew)); exact Kd.R_mono HO413.out (fun _ hk => ⟨hk.1.1.2, ⟨hk.1.2, hk.2⟩⟩))⟩; have n2_ : Aside0 (Kd.R (Kd.int .i64) 3 w46 w.heap.size (fun k_ => some k_ ≠ (.slice Ao38 t408.length co38 : Value).ownBlock ∧ some k_ ≠ (.slice Ao48 t411.length co48 : Value).ownBlock ∧ some k_ ≠ (.slice Ao47 t420.length co47 : Value).ownBlock) (.slice Ao45 t416.length co45) t416) := ⟨by rw [← hq_]; exact (by (with_reducible repeat (first | apply Kd.R_alloc | apply Kd.R_drewN | apply Kd.R_drew)); exact Kd.R_mono HO418.out (fun _ hk => ⟨hk.1.1.2, ⟨hk.1.2, hk.2⟩⟩))⟩; have n3_ : Aside0 (Kd.R (Kd.int .i64) 3 w46 w.heap.size (fun k_ => some k_ ≠ (.slice Ao38 t408.length co38 : Value).ownBlock ∧ some k_ ≠ (.slice Ao48 t411.length co48 : Value).ownBlock ∧ some k_ ≠ (.slice Ao45 t416.length co45 : Value).ownBlock) (.slice Ao47 t420.length co47) t420) := ⟨by rw [← hq_]; exact (by (with_reducible repeat (first | apply Kd.R_alloc | apply Kd.R_drewN | apply Kd.R_drew)); exact Kd.R_mono HO422.out (fun _ hk => ⟨hk.1.1.2, ⟨hk.1.2, hk.2⟩⟩))⟩; have n4_ : Aside0 (w46.heap[gb405]? = some (.cells #[.int .i64 a0_0, .slice A0_1 l0_1.length c0_1] 24 (0, 0))) := ⟨by rw [← hq_]; exact (by (with_reducible repeat (first | refine blk_drewN ?_ _ | refine blk_drew ?_ | refine blk_alloc ?_ _)); exact BK405.out)⟩; have n5_ : Aside0 (w46.heap[gb419]? = some (.cells #[.int .i64 t415, .slice Ao45 t416.length co45] 28 (0, 0))) := ⟨by rw [← hq_]; exact (by (with_reducible repeat (first | refine blk_drewN ?_ _ | refine blk_drew ?_ | refine blk_alloc ?_ _)); exact BK419.out)⟩; have n6_ : Aside0 (Below w.heap.size w w46) := ⟨by rw [← hq_]; exact (by repeat (first | (with_reducible first | exact HB.out | apply below_alloc | apply pw_below_drewN | apply below_drew1 | refine below_set ?_ GE405.out | refine below_set ?_ GE419.out) | exact HB.out))⟩; clear HO410 HO413 HO418 HO422 BK405 BK419 HB hq_; have HO410 := n0_; have HO413 := n1_; have HO418 := n2_; have HO422 := n3_; have BK405 := n4_; have BK419 := n5_; have HB := n6_; clear n0_ n1_ n2_ n3_ n4_ n5_ n6_))
                          have n0_ := Aside0.mk (Kd.R_drew HO410.out)
                          have n1_ := Aside0.mk (Kd.R_drew HO413.out)
                          have n2_ := Aside0.mk (Kd.R_drew HO418.out)
                          have n3_ := Aside0.mk (Kd.R_drew HO422.out)
                          have n4_ := Aside0.mk (blk_drew BK405.out)
                          have n5_ := Aside0.mk (blk_drew BK419.out)
                          have n6_ := Aside0.mk (below_drew1 HB.out)
                          clear HO410
                          clear HO413
                          clear HO418
                          clear HO422
                          clear BK405
                          clear BK419
                          clear HB
                          have HO410 := n0_
                          have HO413 := n1_
                          have HO418 := n2_
                          have HO422 := n3_
                          have BK405 := n4_
                          have BK419 := n5_
                          have HB := n6_
                          clear n0_ n1_ n2_ n3_ n4_ n5_ n6_
                          refine start_ (n := 5) (S := fun w' => w'.cell? ⟨gb419, 0, none⟩ = some (.int .i64 t415) ∧ w'.cell? ⟨gb419, 1, none⟩ = some (.slice Ao45 t416.length co45) ∧ w'.cell? ⟨gb405, 0, none⟩ = some (.int .i64 a0_0) ∧ w'.cell? ⟨gb405, 1, none⟩ = some (.slice A0_1 l0_1.length c0_1)) (ds := []) #[false, false, false, false, false] (by kernel_rfl) rfl rfl ⟨(blk_cell BK419.out 0).trans rfl, (blk_cell BK419.out 1).trans rfl, (blk_cell BK405.out 0).trans rfl, (blk_cell BK405.out 1).trans rfl⟩ (fun hHeld => ?_)
                          generalize w46.drew = w49 at HO410 HO413 HO418 HO422 BK405 BK419 HB hHeld ⊢
                          refine take_ (i := 0) (N := some 41) (v := ?_) (a' := ?_) #[true, false, false, false, false] rfl rfl (by kernel_rfl) (fun _ _ _ h => h) (Or.inl ⟨by rfl, ?_⟩) hHeld ?_ ?_
                          rotate_left
                          · rintro w' ⟨s0, s1, s2, s3⟩
                            go_simp
                            with_reducible rfl
                          rotate_left
                          · simp only [Act.put, List.setIfInBounds_toArray, List.set_cons_zero, List.set_cons_succ, i64_w, i32_w]
                            rfl
                          refine take_ (i := 1) (N := some 42) (v := ?_) (a' := ?_) #[true, true, false, false, false] rfl rfl (by kernel_rfl) (fun _ _ _ h => h) (Or.inl ⟨by rfl, ?_⟩) hHeld ?_ ?_
                          rotate_left
                          · rintro w' ⟨s0, s1, s2, s3⟩
                            go_simp
                            with_reducible rfl
                          rotate_left
                          · simp only [Act.put, List.setIfInBounds_toArray, List.set_cons_zero, List.set_cons_succ, i64_w, i32_w]
                            rfl
                          refine one_ (i := 2) (N := some 43) #[true, true, true, false, false] rfl rfl (by kernel_rfl) (by decide) (fun K hK => ?_)
                          refine goes_ Try.func12 (by kernel_rfl) rfl #[.agg #[.int .i64 a0_0, .slice A0_1 l0_1.length c0_1]] (by rfl) rfl rfl (by (try simp only [List.map_toArray, List.map_cons, List.map_nil]); first | done | rfl | (simp only [List.length_drop, List.length_take]; rfl)) ?_
                          with_reducible refine (laws_toLadder.calls k a0_0 _ _ l0_1 t425 t426 _ ?side1 ?side2 A14.out).mono ?_
                          (case side1 => repeat (first | exact (Kd.C_below HR0_1.out HB.out) | (with_reducible refine Kd.C_alloc ?_ _) | (with_reducible refine Kd.C_drewN ?_ _) | (with_reducible refine Kd.C_drew ?_)))
                          (case side2 => exact HC0_1.out)
                          rintro e w50 ⟨v427, rfl, ho0, hb⟩
                          refine ⟨_, rfl, ?_⟩
                          have n0_ := Aside0.mk (Kd.R_elder' (by (with_reducible repeat (first | apply Kd.R_alloc | apply Kd.R_drewN | apply Kd.R_drew)); exact HO410.out) (Kd.R_base ho0) hb)
                          have n1_ := Aside0.mk (Kd.R_elder' (by (with_reducible repeat (first | apply Kd.R_alloc | apply Kd.R_drewN | apply Kd.R_drew)); exact HO413.out) (Kd.R_base ho0) hb)
                          have n2_ := Aside0.mk (Kd.R_elder' (by (with_reducible repeat (first | apply Kd.R_alloc | apply Kd.R_drewN | apply Kd.R_drew)); exact HO418.out) (Kd.R_base ho0) hb)
                          have n3_ := Aside0.mk (Kd.R_elder' (by (with_reducible repeat (first | apply Kd.R_alloc | apply Kd.R_drewN | apply Kd.R_drew)); exact HO422.out) (Kd.R_base ho0) hb)
                          have n4_ := Aside0.mk (Kd.R_lower (Kd.R_new' (Kd.R_new' (Kd.R_new' (Kd.R_new' ho0 (Kd.R_lt (by (with_reducible repeat (first | apply Kd.R_alloc | apply Kd.R_drewN | apply Kd.R_drew)); exact HO410.out))) (Kd.R_lt (by (with_reducible repeat (first | apply Kd.R_alloc | apply Kd.R_drewN | apply Kd.R_drew)); exact HO413.out))) (Kd.R_lt (by (with_reducible repeat (first | apply Kd.R_alloc | apply Kd.R_drewN | apply Kd.R_drew)); exact HO418.out))) (Kd.R_lt (by (with_reducible repeat (first | apply Kd.R_alloc | apply Kd.R_drewN | apply Kd.R_drew)); exact HO422.out))) (below_size (by repeat (first | (with_reducible first | exact HB.out | apply below_alloc | apply pw_below_drewN | apply below_drew1 | refine below_set ?_ GE405.out | refine below_set ?_ GE419.out) | exact HB.out))))
                          have n5_ := Aside0.mk (blk_below (g := gb405) (o := .cells #[.int .i64 a0_0, .slice A0_1 l0_1.length c0_1] 24 (0, 0)) (by (with_reducible repeat (first | refine blk_drewN ?_ _ | refine blk_drew ?_ | refine blk_alloc ?_ _)); exact BK405.out) hb)
                          have n6_ := Aside0.mk (blk_below (g := gb419) (o := .cells #[.int .i64 t415, .slice Ao45 t416.length co45] 28 (0, 0)) (by (with_reducible repeat (first | refine blk_drewN ?_ _ | refine blk_drew ?_ | refine blk_alloc ?_ _)); exact BK419.out) hb)
                          have n7_ := Aside0.mk (below_step (by repeat (first | (with_reducible first | exact HB.out | apply below_alloc | apply pw_below_drewN | apply below_drew1 | refine below_set ?_ GE405.out | refine below_set ?_ GE419.out) | exact HB.out)) hb)
                          clear HO410
                          clear HO413
                          clear HO418
                          clear HO422
                          clear BK405
                          clear BK419
                          clear HB
                          have HO410 := n0_
                          have HO413 := n1_
                          have HO418 := n2_
                          have HO422 := n3_
                          have HO428 := n4_
                          have BK405 := n5_
                          have BK419 := n6_
                          have HB := n7_
                          clear n0_ n1_ n2_ n3_ n4_ n5_ n6_ n7_
                          (try clear hb)
                          (try clear hb2)
                          (try clear hk)
                          (try clear hi)
                          (try clear ho0)
                          obtain ⟨Ao51, co51, eo51⟩ := Kd.R_slice HO428.out
                          (first | subst eo51 | (injection eo51 with f1_ f2_ f3_; have f4_ := f1_.symm; have f5_ := f3_.symm; clear f1_ f2_ f3_; subst f4_; subst f5_))
                          refine hK.out _ _ ⟨(blk_cell BK419.out 0).trans rfl, (blk_cell BK419.out 1).trans rfl, (blk_cell BK405.out 0).trans rfl, (blk_cell BK405.out 1).trans rfl⟩ (fun hHeld => ?_)
                          clear hK K
                          refine norm_ (a' := ?_) ?_ ?_
                          rotate_left
                          · show Act.put _ (some 43) _ = _
                            simp only [Act.put, List.setIfInBounds_toArray, List.set_cons_zero, List.set_cons_succ, i64_w, i32_w]
                            rfl
                          refine one_ (i := 3) (N := some 44) #[true, true, true, true, false] rfl rfl (by kernel_rfl) (by decide) (fun K hK => ?_)
                          refine goes_ Try.func14 (by kernel_rfl) rfl #[.agg #[.int .i64 t415, .slice Ao45 t416.length co45], .agg #[.int .i64 t425, .slice Ao51 t426.length co51]] (by rfl) rfl rfl (by (try simp only [List.map_toArray, List.map_cons, List.map_nil]); first | done | rfl | (simp only [List.length_drop, List.length_take]; rfl)) ?_
                          with_reducible refine (laws_eqLadder.calls k t415 _ _ t416 t425 _ _ t426 true _ ?side1 ?side2 ?side3 ?side4 A15.out).mono ?_
                          (case side1 => repeat (first | exact (Kd.R_reads' HO418.out).2.2 | (with_reducible refine Kd.C_alloc ?_ _) | (with_reducible refine Kd.C_drewN ?_ _) | (with_reducible refine Kd.C_drew ?_)))
                          (case side2 => exact (Kd.R_reads' HO418.out).2.1)
                          (case side3 => repeat (first | exact (Kd.R_reads' HO428.out).2.2 | (with_reducible refine Kd.C_alloc ?_ _) | (with_reducible refine Kd.C_drewN ?_ _) | (with_reducible refine Kd.C_drew ?_)))
                          (case side4 => exact (Kd.R_reads' HO428.out).2.1)
                          rintro e w52 ⟨rfl, hb⟩
                          refine ⟨_, rfl, ?_⟩
                          have n0_ := Aside0.mk (Kd.R_below (by (with_reducible repeat (first | apply Kd.R_alloc | apply Kd.R_drewN | apply Kd.R_drew)); exact HO410.out) hb)
                          have n1_ := Aside0.mk (Kd.R_below (by (with_reducible repeat (first | apply Kd.R_alloc | apply Kd.R_drewN | apply Kd.R_drew)); exact HO413.out) hb)
                          have n2_ := Aside0.mk (Kd.R_below (by (with_reducible repeat (first | apply Kd.R_alloc | apply Kd.R_drewN | apply Kd.R_drew)); exact HO418.out) hb)
                          have n3_ := Aside0.mk (Kd.R_below (by (with_reducible repeat (first | apply Kd.R_alloc | apply Kd.R_drewN | apply Kd.R_drew)); exact HO422.out) hb)
                          have n4_ := Aside0.mk (Kd.R_below (by (with_reducible repeat (first | apply Kd.R_alloc | apply Kd.R_drewN | apply Kd.R_drew)); exact HO428.out) hb)
                          have n5_ := Aside0.mk (blk_below (g := gb405) (o := .cells #[.int .i64 a0_0, .slice A0_1 l0_1.length c0_1] 24 (0, 0)) (by (with_reducible repeat (first | refine blk_drewN ?_ _ | refine blk_drew ?_ | refine blk_alloc ?_ _)); exact BK405.out) hb)
                          have n6_ := Aside0.mk (blk_below (g := gb419) (o := .cells #[.int .i64 t415, .slice Ao45 t416.length co45] 28 (0, 0)) (by (with_reducible repeat (first | refine blk_drewN ?_ _ | refine blk_drew ?_ | refine blk_alloc ?_ _)); exact BK419.out) hb)
                          have n7_ := Aside0.mk (below_step (by repeat (first | (with_reducible first | exact HB.out | apply below_alloc | apply pw_below_drewN | apply below_drew1 | refine below_set ?_ GE405.out | refine below_set ?_ GE419.out) | exact HB.out)) hb)
                          clear HO410
                          clear HO413
                          clear HO418
                          clear HO422
                          clear HO428
                          clear BK405
                          clear BK419
                          clear HB
                          have HO410 := n0_
                          have HO413 := n1_
                          have HO418 := n2_
                          have HO422 := n3_
                          have HO428 := n4_
                          have BK405 := n5_
                          have BK419 := n6_
                          have HB := n7_
                          clear n0_ n1_ n2_ n3_ n4_ n5_ n6_ n7_
                          (try clear hb)
                          (try clear hb2)
                          (try clear hk)
                          (try clear hi)
                          refine hK.out _ _ ⟨(blk_cell BK419.out 0).trans rfl, (blk_cell BK419.out 1).trans rfl, (blk_cell BK405.out 0).trans rfl, (blk_cell BK405.out 1).trans rfl⟩ (fun hHeld => ?_)
                          clear hK K
                          refine norm_ (a' := ?_) ?_ ?_
                          rotate_left
                          · show Act.put _ (some 44) _ = _
                            simp only [Act.put, List.setIfInBounds_toArray, List.set_cons_zero, List.set_cons_succ, i64_w, i32_w]
                            rfl
                          refine pure_ (i := 4) (N := some 45) (v := ?_) (a' := ?_) #[true, true, true, true, true] rfl rfl (by kernel_rfl) (fun _ _ _ h => h) (Or.inl ⟨by rfl, ?_⟩) ?_ ?_
                          rotate_left
                          · intro w'
                            go_simp
                            with_reducible rfl
                          rotate_left
                          · simp only [Act.put, List.setIfInBounds_toArray, List.set_cons_zero, List.set_cons_succ, i64_w, i32_w]
                            rfl
                          refine done_ (by kernel_rfl) ?_
                          have hcz53_0 : w52.cell? ⟨gb419, 0, none⟩ = some (.int .i64 t415) := (blk_cell BK419.out 0).trans rfl
                          have hcz53_1 : w52.cell? ⟨gb419, 1, none⟩ = some (.slice Ao45 t416.length co45) := (blk_cell BK419.out 1).trans rfl
                          have hfz53_0 := blk_frozen BK419.out 0
                          have hfz53_1 := blk_frozen BK419.out 1
                          try go_wp2_with (first | ((with_reducible refine gate_callee (f := 19) rfl ?_); refine goesL_ (some 48) rfl rfl Try.func19 (by kernel_rfl) rfl #[.agg #[.int .i64 t415, .slice Ao45 t416.length co45], .int .i64 1] rfl (by (try simp only [List.map_toArray, List.map_cons, List.map_nil]); first | done | rfl | (simp only [List.length_drop, List.length_take]; rfl)) ?_; (with_reducible refine (laws_markLadder.calls k t415 (fun k_ => some k_ = (.slice Ao45 t416.length co45 : Value).ownBlock) (.slice Ao45 t416.length co45) t416 1 t430 t431 w _ ?side1 ?side2 A17.out).mono ?_); (case side1 => repeat (first | (with_reducible first | exact HB.out | apply below_alloc | apply pw_below_drewN | apply below_drew1 | refine below_set ?_ GE405.out | refine below_set ?_ GE419.out) | exact HB.out)); (case side2 => exact Kd.R_tight rfl HO418.out); rintro e w54 ⟨rfl, hy0, hb, hkp⟩; refine ⟨_, rfl, ?_⟩; have n0_ := Aside0.mk (blk_kept (by (with_reducible repeat (first | refine blk_drewN ?_ _ | refine blk_drew ?_ | refine blk_alloc ?_ _)); exact BK405.out) hkp (fun hs_ => (fun e_ => (Kd.R_ne HO418.out BK405.out (by decide)) e_) hs_)); have n1_ := Aside0.mk (Kd.R_mono (ok' := fun k_ => some k_ ≠ (.slice Ao48 t411.length co48 : Value).ownBlock ∧ some k_ ≠ (.slice Ao45 t416.length co45 : Value).ownBlock ∧ some k_ ≠ (.slice Ao47 t420.length co47 : Value).ownBlock ∧ some k_ ≠ (.slice Ao51 t426.length co51 : Value).ownBlock) (Kd.R_keptB (HO410.out) hkp (fun k_ hk_ hs_ => absurd hs_ (by revert hk_; simp only [and_imp, true_implies]; intros; assumption))) (fun k_ hk_ => by revert hk_; simp only [and_imp, true_implies]; intros; (repeat' apply And.intro) <;> assumption)); have n2_ := Aside0.mk (Kd.R_mono (ok' := fun k_ => some k_ ≠ (.slice Ao38 t408.length co38 : Value).ownBlock ∧ some k_ ≠ (.slice Ao45 t416.length co45 : Value).ownBlock ∧ some k_ ≠ (.slice Ao47 t420.length co47 : Value).ownBlock ∧ some k_ ≠ (.slice Ao51 t426.length co51 : Value).ownBlock) (Kd.R_keptB (HO413.out) hkp (fun k_ hk_ hs_ => absurd hs_ (by revert hk_; simp only [and_imp, true_implies]; intros; assumption))) (fun k_ hk_ => by revert hk_; simp only [and_imp, true_implies]; intros; (repeat' apply And.intro) <;> assumption)); have n3_ := Aside0.mk (Kd.R_reok rfl hy0 (fun k_ e_ => HO418.out.1 k_ e_)); have n4_ := Aside0.mk (blk_kept (by (with_reducible repeat (first | refine blk_drewN ?_ _ | refine blk_drew ?_ | refine blk_alloc ?_ _)); exact BK419.out) hkp (fun hs_ => (fun e_ => (Kd.R_ne HO418.out BK419.out (by decide)) e_) hs_)); have n5_ := Aside0.mk (Kd.R_mono (ok' := fun k_ => some k_ ≠ (.slice Ao38 t408.length co38 : Value).ownBlock ∧ some k_ ≠ (.slice Ao48 t411.length co48 : Value).ownBlock ∧ some k_ ≠ (.slice Ao45 t416.length co45 : Value).ownBlock ∧ some k_ ≠ (.slice Ao51 t426.length co51 : Value).ownBlock) (Kd.R_keptB (HO422.out) hkp (fun k_ hk_ hs_ => absurd hs_ (by revert hk_; simp only [and_imp, true_implies]; intros; assumption))) (fun k_ hk_ => by revert hk_; simp only [and_imp, true_implies]; intros; (repeat' apply And.intro) <;> assumption)); have n6_ := Aside0.mk (Kd.R_mono (ok' := fun k_ => some k_ ≠ (.slice Ao38 t408.length co38 : Value).ownBlock ∧ some k_ ≠ (.slice Ao48 t411.length co48 : Value).ownBlock ∧ some k_ ≠ (.slice Ao45 t416.length co45 : Value).ownBlock ∧ some k_ ≠ (.slice Ao47 t420.length co47 : Value).ownBlock) (Kd.R_keptB (HO428.out) hkp (fun k_ hk_ hs_ => absurd hs_ (by revert hk_; simp only [and_imp, true_implies]; intros; assumption))) (fun k_ hk_ => by revert hk_; simp only [and_imp, true_implies]; intros; (repeat' apply And.intro) <;> assumption)); have n7_ := Aside0.mk (hb); clear BK405; clear HO410; clear HO413; clear HO418; clear BK419; clear HO422; clear HO428; clear HB; have BK405 := n0_; have HO410 := n1_; have HO413 := n2_; have HO418 := n3_; have BK419 := n4_; have HO422 := n5_; have HO428 := n6_; have HB := n7_; clear n0_ n1_ n2_ n3_ n4_ n5_ n6_ n7_; (try clear hb); (try clear hkp); (try clear hy0)) | (go_at_call 18; (with_reducible refine (laws_eqIntS.calls k _ _ t420 _ _ t411 true _ ?side1 ?side2 ?side3 ?side4 A19.out).mono ?_); (case side1 => repeat (first | exact (Kd.R_reads' HO422.out).2.2 | (with_reducible refine Kd.C_alloc ?_ _) | (with_reducible refine Kd.C_drewN ?_ _) | (with_reducible refine Kd.C_drew ?_))); (case side2 => exact (Kd.R_reads' HO422.out).2.1); (case side3 => repeat (first | exact (Kd.R_reads' HO413.out).2.2 | (with_reducible refine Kd.C_alloc ?_ _) | (with_reducible refine Kd.C_drewN ?_ _) | (with_reducible refine Kd.C_drew ?_))); (case side4 => exact (Kd.R_reads' HO413.out).2.1); rintro e w' ⟨rfl, ⟨nd, rfl⟩⟩) | ((with_reducible refine gate_callee (f := 20) rfl ?_); refine goesL_ (some 64) rfl rfl Try.func20 (by kernel_rfl) rfl #[.slice Ao47 t420.length co47, .int .i64 1] rfl (by (try simp only [List.map_toArray, List.map_cons, List.map_nil]); first | done | rfl | (simp only [List.length_drop, List.length_take]; rfl)) ?_; (with_reducible refine (laws_markIntS.calls k (fun k_ => some k_ = (.slice Ao47 t420.length co47 : Value).ownBlock) (.slice Ao47 t420.length co47) t420 1 t433 t434 w _ ?side1 ?side2 A21.out).mono ?_); (case side1 => repeat (first | (with_reducible first | exact HB.out | apply below_alloc | apply pw_below_drewN | apply below_drew1 | refine below_set ?_ GE405.out | refine below_set ?_ GE419.out) | exact HB.out)); (case side2 => exact Kd.R_tight rfl HO422.out); rintro e w55 ⟨rfl, hy0, hb, hkp⟩; refine ⟨_, rfl, ?_⟩; have n0_ := Aside0.mk (blk_kept (by (with_reducible repeat (first | refine blk_drewN ?_ _ | refine blk_drew ?_ | refine blk_alloc ?_ _)); exact BK405.out) hkp (fun hs_ => (fun e_ => (Kd.R_ne HO422.out BK405.out (by decide)) e_) hs_)); have n1_ := Aside0.mk (Kd.R_mono (ok' := fun k_ => some k_ ≠ (.slice Ao48 t411.length co48 : Value).ownBlock ∧ some k_ ≠ (.slice Ao45 t416.length co45 : Value).ownBlock ∧ some k_ ≠ (.slice Ao47 t420.length co47 : Value).ownBlock ∧ some k_ ≠ (.slice Ao51 t426.length co51 : Value).ownBlock) (Kd.R_keptB (HO410.out) hkp (fun k_ hk_ hs_ => absurd hs_ (by revert hk_; simp only [and_imp, true_implies]; intros; assumption))) (fun k_ hk_ => by revert hk_; simp only [and_imp, true_implies]; intros; (repeat' apply And.intro) <;> assumption)); have n2_ := Aside0.mk (Kd.R_mono (ok' := fun k_ => some k_ ≠ (.slice Ao38 t408.length co38 : Value).ownBlock ∧ some k_ ≠ (.slice Ao45 t416.length co45 : Value).ownBlock ∧ some k_ ≠ (.slice Ao47 t420.length co47 : Value).ownBlock ∧ some k_ ≠ (.slice Ao51 t426.length co51 : Value).ownBlock) (Kd.R_keptB (HO413.out) hkp (fun k_ hk_ hs_ => absurd hs_ (by revert hk_; simp only [and_imp, true_implies]; intros; assumption))) (fun k_ hk_ => by revert hk_; simp only [and_imp, true_implies]; intros; (repeat' apply And.intro) <;> assumption)); have n3_ := Aside0.mk (Kd.R_mono (ok' := fun k_ => some k_ ≠ (.slice Ao38 t408.length co38 : Value).ownBlock ∧ some k_ ≠ (.slice Ao48 t411.length co48 : Value).ownBlock ∧ some k_ ≠ (.slice Ao47 t420.length co47 : Value).ownBlock ∧ some k_ ≠ (.slice Ao51 t426.length co51 : Value).ownBlock) (Kd.R_keptB (HO418.out) hkp (fun k_ hk_ hs_ => absurd hs_ (by revert hk_; simp only [and_imp, true_implies]; intros; assumption))) (fun k_ hk_ => by revert hk_; simp only [and_imp, true_implies]; intros; (repeat' apply And.intro) <;> assumption)); have n4_ := Aside0.mk (blk_kept (by (with_reducible repeat (first | refine blk_drewN ?_ _ | refine blk_drew ?_ | refine blk_alloc ?_ _)); exact BK419.out) hkp (fun hs_ => (fun e_ => (Kd.R_ne HO422.out BK419.out (by decide)) e_) hs_)); have n5_ := Aside0.mk (Kd.R_reok rfl hy0 (fun k_ e_ => HO422.out.1 k_ e_)); have n6_ := Aside0.mk (Kd.R_mono (ok' := fun k_ => some k_ ≠ (.slice Ao38 t408.length co38 : Value).ownBlock ∧ some k_ ≠ (.slice Ao48 t411.length co48 : Value).ownBlock ∧ some k_ ≠ (.slice Ao45 t416.length co45 : Value).ownBlock ∧ some k_ ≠ (.slice Ao47 t420.length co47 : Value).ownBlock) (Kd.R_keptB (HO428.out) hkp (fun k_ hk_ hs_ => absurd hs_ (by revert hk_; simp only [and_imp, true_implies]; intros; assumption))) (fun k_ hk_ => by revert hk_; simp only [and_imp, true_implies]; intros; (repeat' apply And.intro) <;> assumption)); have n7_ := Aside0.mk (hb); clear BK405; clear HO410; clear HO413; clear HO418; clear BK419; clear HO422; clear HO428; clear HB; have BK405 := n0_; have HO410 := n1_; have HO413 := n2_; have HO418 := n3_; have BK419 := n4_; have HO422 := n5_; have HO428 := n6_; have HB := n7_; clear n0_ n1_ n2_ n3_ n4_ n5_ n6_ n7_; (try clear hb); (try clear hkp); (try clear hy0)) | ((with_reducible refine gate_callee (f := 30) rfl ?_); refine goesL_ (some 67) rfl rfl Try.func30 (by kernel_rfl) rfl #[.slice Ao47 t434.length co47, .int .i64 1] rfl (by (try simp only [List.map_toArray, List.map_cons, List.map_nil]); first | done | (rw [show t434.length = t420.length from (Kd.R_reads' HO422.out).1.symm] <;> rfl) | rfl | (simp only [List.length_drop, List.length_take]; rfl)) ?_; (with_reducible refine (laws_heldIntS.calls k _ _ t434 1 t435 _ ?side1 ?side2 A22.out).mono ?_); (case side1 => repeat (first | exact (Kd.R_reads' HO422.out).2.2 | (with_reducible refine Kd.C_alloc ?_ _) | (with_reducible refine Kd.C_drewN ?_ _) | (with_reducible refine Kd.C_drew ?_))); (case side2 => rw [show t434.length = t420.length from (Kd.R_reads' HO422.out).1.symm]; exact (Kd.R_reads' HO422.out).2.1); rintro e w' ⟨rfl, ⟨nd, rfl⟩⟩; refine ⟨_, rfl, ?_⟩; have hcz56_0 : w55.cell? ⟨gb405, 0, none⟩ = some (.int .i64 a0_0) := (blk_cell BK405.out 0).trans rfl; have hcz56_1 : w55.cell? ⟨gb405, 1, none⟩ = some (.slice A0_1 l0_1.length c0_1) := (blk_cell BK405.out 1).trans rfl; have hfz56_0 := blk_frozen BK405.out 0; have hfz56_1 := blk_frozen BK405.out 1) | ((with_reducible refine gate_callee (f := 12) rfl ?_); refine goesL_ (some 75) rfl rfl Try.func12 (by kernel_rfl) rfl #[.agg #[.int .i64 a0_0, .slice A0_1 l0_1.length c0_1]] rfl (by (try simp only [List.map_toArray, List.map_cons, List.map_nil]); first | done | rfl | (simp only [List.length_drop, List.length_take]; rfl)) ?_; (with_reducible refine (laws_toLadder.calls k a0_0 _ _ l0_1 t436 t437 _ ?side1 ?side2 A25.out).mono ?_); (case side1 => repeat (first | exact (Kd.C_below HR0_1.out (by repeat (first | (with_reducible first | exact HB.out | apply below_alloc | apply pw_below_drewN | apply below_drew1 | refine below_set ?_ GE405.out | refine below_set ?_ GE419.out) | exact HB.out))) | (with_reducible refine Kd.C_alloc ?_ _) | (with_reducible refine Kd.C_drewN ?_ _) | (with_reducible refine Kd.C_drew ?_))); (case side2 => exact HC0_1.out); rintro e w57 ⟨v438, rfl, ho0, hb⟩; refine ⟨_, rfl, ?_⟩; have n0_ := Aside0.mk (Kd.R_elder' (by (with_reducible repeat (first | apply Kd.R_alloc | apply Kd.R_drewN | apply Kd.R_drew)); exact HO410.out) (Kd.R_base ho0) hb); have n1_ := Aside0.mk (Kd.R_elder' (by (with_reducible repeat (first | apply Kd.R_alloc | apply Kd.R_drewN | apply Kd.R_drew)); exact HO413.out) (Kd.R_base ho0) hb); have n2_ := Aside0.mk (Kd.R_elder' (by (with_reducible repeat (first | apply Kd.R_alloc | apply Kd.R_drewN | apply Kd.R_drew)); exact HO418.out) (Kd.R_base ho0) hb); have n3_ := Aside0.mk (Kd.R_elder' (by (with_reducible repeat (first | apply Kd.R_alloc | apply Kd.R_drewN | apply Kd.R_drew)); exact HO422.out) (Kd.R_base ho0) hb); have n4_ := Aside0.mk (Kd.R_elder' (by (with_reducible repeat (first | apply Kd.R_alloc | apply Kd.R_drewN | apply Kd.R_drew)); exact HO428.out) (Kd.R_base ho0) hb); have n5_ := Aside0.mk (Kd.R_lower (Kd.R_new' (Kd.R_new' (Kd.R_new' (Kd.R_new' (Kd.R_new' ho0 (Kd.R_lt (by (with_reducible repeat (first | apply Kd.R_alloc | apply Kd.R_drewN | apply Kd.R_drew)); exact HO410.out))) (Kd.R_lt (by (with_reducible repeat (first | apply Kd.R_alloc | apply Kd.R_drewN | apply Kd.R_drew)); exact HO413.out))) (Kd.R_lt (by (with_reducible repeat (first | apply Kd.R_alloc | apply Kd.R_drewN | apply Kd.R_drew)); exact HO418.out))) (Kd.R_lt (by (with_reducible repeat (first | apply Kd.R_alloc | apply Kd.R_drewN | apply Kd.R_drew)); exact HO422.out))) (Kd.R_lt (by (with_reducible repeat (first | apply Kd.R_alloc | apply Kd.R_drewN | apply Kd.R_drew)); exact HO428.out))) (below_size (by repeat (first | (with_reducible first | exact HB.out | apply below_alloc | apply pw_below_drewN | apply below_drew1 | refine below_set ?_ GE405.out | refine below_set ?_ GE419.out) | exact HB.out)))); have n6_ := Aside0.mk (blk_below (g := gb405) (o := .cells #[.int .i64 a0_0, .slice A0_1 l0_1.length c0_1] 24 (0, 0)) (by (with_reducible repeat (first | refine blk_drewN ?_ _ | refine blk_drew ?_ | refine blk_alloc ?_ _)); exact BK405.out) hb); have n7_ := Aside0.mk (blk_below (g := gb419) (o := .cells #[.int .i64 t415, .slice Ao45 t416.length co45] 28 (0, 0)) (by (with_reducible repeat (first | refine blk_drewN ?_ _ | refine blk_drew ?_ | refine blk_alloc ?_ _)); exact BK419.out) hb); have n8_ := Aside0.mk (below_step (by repeat (first | (with_reducible first | exact HB.out | apply below_alloc | apply pw_below_drewN | apply below_drew1 | refine below_set ?_ GE405.out | refine below_set ?_ GE419.out) | exact HB.out)) hb); clear HO410; clear HO413; clear HO418; clear HO422; clear HO428; clear BK405; clear BK419; clear HB; have HO410 := n0_; have HO413 := n1_; have HO418 := n2_; have HO422 := n3_; have HO428 := n4_; have HO439 := n5_; have BK405 := n6_; have BK419 := n7_; have HB := n8_; clear n0_ n1_ n2_ n3_ n4_ n5_ n6_ n7_ n8_; (try clear hb); (try clear hb2); (try clear hk); (try clear hi); (try clear ho0); obtain ⟨Ao58, co58, eo58⟩ := Kd.R_slice HO439.out; subst eo58) | ((with_reducible refine gate_callee (f := 32) rfl ?_); refine goesL_ (some 76) rfl rfl Try.func32 (by kernel_rfl) rfl #[.agg #[.int .i64 t436, .slice Ao58 t437.length co58]] rfl (by (try simp only [List.map_toArray, List.map_cons, List.map_nil]); first | done | rfl | (simp only [List.length_drop, List.length_take]; rfl)) ?_; (with_reducible refine (impl_TakeLine.calls k t436 _ _ t437 t440 t443 _ ?side1 ?side2 A26.out).mono ?_); (case side1 => repeat (first | exact (Kd.R_reads' HO439.out).2.2 | (with_reducible refine Kd.C_alloc ?_ _) | (with_reducible refine Kd.C_drewN ?_ _) | (with_reducible refine Kd.C_drew ?_))); (case side2 => exact (Kd.R_reads' HO439.out).2.1); rintro e w59 ⟨v441, rfl, ho0, hb⟩; refine ⟨_, rfl, ?_⟩; have n0_ := Aside0.mk (Kd.R_elder' (by (with_reducible repeat (first | apply Kd.R_alloc | apply Kd.R_drewN | apply Kd.R_drew)); exact HO410.out) (Kd.R_base ho0) hb); have n1_ := Aside0.mk (Kd.R_elder' (by (with_reducible repeat (first | apply Kd.R_alloc | apply Kd.R_drewN | apply Kd.R_drew)); exact HO413.out) (Kd.R_base ho0) hb); have n2_ := Aside0.mk (Kd.R_elder' (by (with_reducible repeat (first | apply Kd.R_alloc | apply Kd.R_drewN | apply Kd.R_drew)); exact HO418.out) (Kd.R_base ho0) hb); have n3_ := Aside0.mk (Kd.R_elder' (by (with_reducible repeat (first | apply Kd.R_alloc | apply Kd.R_drewN | apply Kd.R_drew)); exact HO422.out) (Kd.R_base ho0) hb); have n4_ := Aside0.mk (Kd.R_elder' (by (with_reducible repeat (first | apply Kd.R_alloc | apply Kd.R_drewN | apply Kd.R_drew)); exact HO428.out) (Kd.R_base ho0) hb); have n5_ := Aside0.mk (Kd.R_elder' (by (with_reducible repeat (first | apply Kd.R_alloc | apply Kd.R_drewN | apply Kd.R_drew)); exact HO439.out) (Kd.R_base ho0) hb); have n6_ := Aside0.mk (Kd.R_lower (Kd.R_new' (Kd.R_new' (Kd.R_new' (Kd.R_new' (Kd.R_new' (Kd.R_new' ho0 (Kd.R_lt (by (with_reducible repeat (first | apply Kd.R_alloc | apply Kd.R_drewN | apply Kd.R_drew)); exact HO410.out))) (Kd.R_lt (by (with_reducible repeat (first | apply Kd.R_alloc | apply Kd.R_drewN | apply Kd.R_drew)); exact HO413.out))) (Kd.R_lt (by (with_reducible repeat (first | apply Kd.R_alloc | apply Kd.R_drewN | apply Kd.R_drew)); exact HO418.out))) (Kd.R_lt (by (with_reducible repeat (first | apply Kd.R_alloc | apply Kd.R_drewN | apply Kd.R_drew)); exact HO422.out))) (Kd.R_lt (by (with_reducible repeat (first | apply Kd.R_alloc | apply Kd.R_drewN | apply Kd.R_drew)); exact HO428.out))) (Kd.R_lt (by (with_reducible repeat (first | apply Kd.R_alloc | apply Kd.R_drewN | apply Kd.R_drew)); exact HO439.out))) (below_size (by repeat (first | (with_reducible first | exact HB.out | apply below_alloc | apply pw_below_drewN | apply below_drew1 | refine below_set ?_ GE405.out | refine below_set ?_ GE419.out) | exact HB.out)))); have n7_ := Aside0.mk (blk_below (g := gb405) (o := .cells #[.int .i64 a0_0, .slice A0_1 l0_1.length c0_1] 24 (0, 0)) (by (with_reducible repeat (first | refine blk_drewN ?_ _ | refine blk_drew ?_ | refine blk_alloc ?_ _)); exact BK405.out) hb); have n8_ := Aside0.mk (blk_below (g := gb419) (o := .cells #[.int .i64 t415, .slice Ao45 t416.length co45] 28 (0, 0)) (by (with_reducible repeat (first | refine blk_drewN ?_ _ | refine blk_drew ?_ | refine blk_alloc ?_ _)); exact BK419.out) hb); have n9_ := Aside0.mk (below_step (by repeat (first | (with_reducible first | exact HB.out | apply below_alloc | apply pw_below_drewN | apply below_drew1 | refine below_set ?_ GE405.out | refine below_set ?_ GE419.out) | exact HB.out)) hb); clear HO410; clear HO413; clear HO418; clear HO422; clear HO428; clear HO439; clear BK405; clear BK419; clear HB; have HO410 := n0_; have HO413 := n1_; have HO418 := n2_; have HO422 := n3_; have HO428 := n4_; have HO439 := n5_; have HO442 := n6_; have BK405 := n7_; have BK419 := n8_; have HB := n9_; clear n0_ n1_ n2_ n3_ n4_ n5_ n6_ n7_ n8_ n9_; (try clear hb); (try clear hb2); (try clear hk); (try clear hi); (try clear ho0); obtain ⟨Ao60, co60, eo60⟩ := Kd.R_slice HO442.out; subst eo60) | ((with_reducible refine gate_callee (f := 18) rfl ?_); refine goesL_ (some 81) rfl rfl Try.func18 (by kernel_rfl) rfl #[.slice Ao60 t440.length co60, .slice Ao48 t411.length co48] rfl (by (try simp only [List.map_toArray, List.map_cons, List.map_nil]); first | done | rfl | (simp only [List.length_drop, List.length_take]; rfl)) ?_; (with_reducible refine (laws_eqIntS.calls k _ _ t440 _ _ t411 true _ ?side1 ?side2 ?side3 ?side4 A27.out).mono ?_); (case side1 => repeat (first | exact (Kd.R_reads' HO442.out).2.2 | (with_reducible refine Kd.C_alloc ?_ _) | (with_reducible refine Kd.C_drewN ?_ _) | (with_reducible refine Kd.C_drew ?_))); (case side2 => exact (Kd.R_reads' HO442.out).2.1); (case side3 => repeat (first | exact (Kd.R_reads' HO413.out).2.2 | (with_reducible refine Kd.C_alloc ?_ _) | (with_reducible refine Kd.C_drewN ?_ _) | (with_reducible refine Kd.C_drew ?_))); (case side4 => exact (Kd.R_reads' HO413.out).2.1); rintro e w' ⟨rfl, ⟨nd, rfl⟩⟩; refine ⟨_, rfl, ?_⟩) | ((with_reducible refine gate_callee (f := 30) rfl ?_); refine goesL_ (some 90) rfl rfl Try.func30 (by kernel_rfl) rfl #[.slice Ao47 t434.length co47, .int .i64 1] rfl (by (try simp only [List.map_toArray, List.map_cons, List.map_nil]); first | done | (rw [show t434.length = t420.length from (Kd.R_reads' HO422.out).1.symm] <;> rfl) | rfl | (simp only [List.length_drop, List.length_take]; rfl)) ?_; (with_reducible refine (laws_heldIntS.calls k _ _ t434 1 t445 _ ?side1 ?side2 A30.out).mono ?_); (case side1 => repeat (first | exact (Kd.R_reads' HO422.out).2.2 | (with_reducible refine Kd.C_alloc ?_ _) | (with_reducible refine Kd.C_drewN ?_ _) | (with_reducible refine Kd.C_drew ?_))); (case side2 => rw [show t434.length = t420.length from (Kd.R_reads' HO422.out).1.symm]; exact (Kd.R_reads' HO422.out).2.1); rintro e w' ⟨rfl, ⟨nd, rfl⟩⟩; refine ⟨_, rfl, ?_⟩))
                          go_ret
                          exact ⟨by first | rfl | (simp [errW_none, errW_some] <;> rfl) | (simp [*, errW_none, errW_some] <;> rfl), by repeat (first | (with_reducible first | exact HB.out | apply below_alloc | apply pw_below_drewN | apply below_drew1 | refine below_set ?_ GE405.out | refine below_set ?_ GE419.out) | exact HB.out)⟩
                        · rw [if_neg c32] at H
                          exact absurd H (by simp)
                  · replace c28 := Bool.eq_false_iff.mpr c28
                    subst c28
                    have H1 : (none) = some r := by rw [if_neg (show ¬ (false = true) by decide)] at H; exact H
                    clear H
                    have H := H1
                    clear H1
                    exact absurd H (by simp)
                · rw [if_neg c24] at H
                  exact absurd H (by simp)
            · replace c20 := Bool.eq_false_iff.mpr c20
              subst c20
              have H1 : (none) = some r := by rw [if_neg (show ¬ (false = true) by decide)] at H; exact H
              clear H
              have H := H1
              clear H1
              exact absurd H (by simp)
        · replace c16 := Bool.eq_false_iff.mpr c16
          subst c16
          have H1 : (none) = some r := by rw [if_neg (show ¬ (false = true) by decide)] at H; exact H
          clear H
          have H := H1
          clear H1
          exact absurd H (by simp)
    · replace c12 := Bool.eq_false_iff.mpr c12
      subst c12
      have H1 : (none) = some r := by rw [if_neg (show ¬ (false = true) by decide)] at H; exact H
      clear H
      have H := H1
      clear H1
      exact absurd H (by simp)

end Go.Proofs.Ytnmhokkkjpjmeaa.B
