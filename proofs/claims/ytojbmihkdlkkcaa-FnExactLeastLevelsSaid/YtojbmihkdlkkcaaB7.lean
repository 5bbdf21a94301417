/- The walks of functions of the given program and of its reference: each call of the machine returns what the plain Lean function of the same name says. Conditions: those in each statement. (Written by this session's program over the kit's print.) -/
import Derived.Test.YtojbmihkdlkkcaaB0
import Derived.Test.YtojbmihkdlkkcaaB1
import Derived.Test.YtojbmihkdlkkcaaB2
import Derived.Test.YtojbmihkdlkkcaaB4
import Derived.Test.YtojbmihkdlkkcaaB5
namespace Go.Proofs.Ytojbmihkdlkkcaa.B
open Go.RowKit Go.Proofs.YtojbmihkdlkkcaaW.PrintWords Go.Proofs.YtojbmihkdlkkcaaW.PrintLast Go.Proofs.YtojbmihkdlkkcaaW.PrintMore
attribute [local go_sem] max2_int min2_int max_two min_two max_three min_three max_four min_four   -- for this text's walks alone
set_option linter.unusedVariables false
set_option linter.unusedSimpArgs false

/-! ### spec_LeastLevels: function 14 -/
def slIn (k : Nat) (far : List Int) (p : List Int) (left : Int) : List (List Int) → Option (Option (List Int × List Int))
  | [] => some none
  | l :: ls => (spec_lvTop.f k p l).bind fun x => (spec_alRank.f k x).bind fun t => if 0 ≤ t ∧ t < (far.length : Int) then (if rd far t = wrap64 (left - 1) then some (some (l, x)) else slIn k far p left ls) else none
def slL (k0 : Nat) (far : List Int) (ls : List (List Int)) : Nat → List Int → Int → List (List Int) → Option (List (List Int))
  | 0, _, _, _ => none
  | k + 1, p, left, out => if 0 < left then (slIn k0 far p left ls).bind fun r => match r with
      | none => slL k0 far ls k p (wrap64 (left - 1)) out
      | some s => if out.length < 1000 ∧ p.length = s.2.length then slL k0 far ls k s.2 (wrap64 (left - 1)) (out ++ [s.1]) else none
    else some out
def spec_LeastLevels.f (k : Nat) (l0 : List Int) : Option (List (List Int) × Bool) := (spec_lvMade.f k l0).bind fun b => if b = true then (spec_lvFar.f k (l0.length : Int)).bind fun far => (spec_alRank.f k l0).bind fun t => (if 0 ≤ t ∧ t < (far.length : Int) then (spec_lvAll.f k (l0.length : Int) 0).bind fun ls => if ls.length ≤ 1000 then (slL k far ls k l0 (rd far t) []).bind fun r => some (r, true) else none else none) else some ([], false)
theorem slIn_mono (k : Nat) (far : List Int) (p : List Int) (left : Int) : ∀ ls, LeO (slIn k far p left ls) (slIn (k + 1) far p left ls)
  | [] => LeO.refl _
  | _ :: _ => LeO.bind (spec_lvTop.mono _ _ _) fun _ => LeO.bind (spec_alRank.mono _ _) fun _ => LeO.ite (LeO.ite (LeO.refl _) (slIn_mono k far p left _)) (LeO.refl _)
theorem slL_mono (k0 : Nat) (far : List Int) (ls : List (List Int)) : ∀ k p left out, LeO (slL k0 far ls k p left out) (slL (k0 + 1) far ls (k + 1) p left out)
  | 0, _, _, _ => LeO.none _
  | k + 1, p, left, out => LeO.ite (LeO.bind (slIn_mono _ _ _ _ _) fun r => by
      cases r with
      | none => exact slL_mono k0 far ls k _ _ _
      | some s => exact LeO.ite (slL_mono k0 far ls k _ _ _) (LeO.refl _)) (LeO.refl _)
theorem spec_LeastLevels.mono : ∀ a0 k, LeO (spec_LeastLevels.f k a0) (spec_LeastLevels.f (k + 1) a0) := fun _ _ => LeO.bind (spec_lvMade.mono _ _) fun _ => LeO.ite (LeO.bind (spec_lvFar.mono _ _) fun _ => LeO.bind (spec_alRank.mono _ _) fun _ => LeO.ite (LeO.bind (spec_lvAll.mono _ _ _) fun _ => LeO.ite (LeO.bind (slL_mono _ _ _ _ _ _ _) fun _ => LeO.refl _) (LeO.refl _)) (LeO.refl _)) (LeO.refl _)
/-- a level of a list of levels: where it stands, and what it owns -/
theorem rows_at {W : World} {base : Nat} {ok : Nat → Prop} {A : Option Addr} {n cap : Nat} {xs : List (List Int)} {p : List Int} (h : Kd.S (Kd.slice 3 (Kd.int .i64)) 22 W base ok (.slice A n cap) xs) (i : Nat) (hi : xs[i]? = some p) :
    ∃ ad A' c', A = some ad ∧ W.cell? (ad.add i) = some (.slice A' p.length c') ∧ Kd.R (Kd.int .i64) 3 W base (fun k => ok k ∧ some k ≠ (Value.slice A n cap).ownBlock) (.slice A' p.length c') p := by
  have hC := (Kd.S_reads' h).2.2
  have hn := (Kd.S_reads' h).1
  have hi2 := (List.getElem?_eq_some_iff.1 hi).1
  have ex : xs.getD (i : Int).toNat [] = p := by simp [hi]
  obtain ⟨ad, c1, rfl, _, hK, hc1⟩ := Kd.C_get hC [] (i : Int) (by omega) (by omega)
  rw [ex] at hK
  obtain ⟨A', c', rfl, hl, hCp⟩ := hK
  have hx := hc1 0 _ rfl
  obtain ⟨c, hcl, hM, hcc⟩ := Kd.S_get h [] (i : Int) (by omega) (by omega)
  rw [ex] at hM
  obtain ⟨v, rfl, hR⟩ := hM
  have hv := hcc 0 _ rfl
  rw [hx] at hv
  injection hv with hv
  subst hv
  rw [show (i : Int).toNat * (Kd.slice 3 (Kd.int .i64)).sz + 0 = i by show (i : Int).toNat * 1 + 0 = i; omega] at hx
  exact ⟨ad, A', c', rfl, hx, hR⟩
theorem below_drawn {w w' : World} (h : Drawn0 w w') : Below w.heap.size w w' := by
  obtain ⟨n, rfl⟩ := h.out
  exact pw_below_drewN (Below.refl _ _) n
set_option maxHeartbeats 4000000 in
set_option maxRecDepth 100000 in
theorem spec_LeastLevels.calls (k : Nat) (A0 : Option Addr) (c0 : Nat) (l0 : List Int) (r1 : List (List Int)) (r2 : Bool) (w : World) (hr0 : Kd.C (Kd.int .i64) w A0 l0.length l0) (hc0 : l0.length ≤ c0) (h : spec_LeastLevels.f k l0 = some (r1, r2)) :
 Calls Try.prog 14 #[.slice A0 l0.length c0] w fun e w' => ∃ v0_ : Value, e = .returned (.tuple #[v0_, .bool r2]) ∧ Kd.S (Kd.slice 3 (Kd.int .i64)) 22 w' w.heap.size (fun _ => True) v0_ r1 ∧ Below w.heap.size w w' := by
  unfold spec_LeastLevels.f at h
  replace h := Option.bind_eq_some_iff.mp h
  obtain ⟨b, hb, h⟩ := h
  have HR := Aside0.mk hr0
  have HC := Aside0.mk hc0
  have HM := Aside0.mk hb
  clear hr0 hc0 hb
  cases b with
  | false =>
    rw [if_neg (by simp)] at h
    simp only [Option.some.injEq, Prod.mk.injEq] at h
    obtain ⟨rfl, rfl⟩ := h
    go_enter Try.func14, Try.ntmps14
    go_wp2_with (first | ((with_reducible refine gate_callee (f := 23) rfl ?_); refine goesL_ (some 11) rfl rfl Try.func23 (by kernel_rfl) rfl #[.slice A0 l0.length c0] rfl (by (try simp only [List.map_toArray, List.map_cons, List.map_nil]); first | done | rfl) ?_; (with_reducible refine (spec_lvMade.calls k A0 c0 l0 false _ HR.out HC.out HM.out).mono ?_); rintro e w1 ⟨rfl, ⟨q, rfl⟩⟩; refine ⟨_, rfl, ?_⟩))
    go_ret2
    exact ⟨_, rfl, Kd.S_nil _ _ _ _ _, pw_below_drewN (Below.refl _ _) _⟩
  | true =>
    rw [if_pos rfl] at h
    replace h := Option.bind_eq_some_iff.mp h
    obtain ⟨far, hfar, h⟩ := h
    replace h := Option.bind_eq_some_iff.mp h
    obtain ⟨t, ht, h⟩ := h
    by_cases hk : 0 ≤ t ∧ t < (far.length : Int)
    case neg => rw [if_neg hk] at h; cases h
    rw [if_pos hk] at h
    replace h := Option.bind_eq_some_iff.mp h
    obtain ⟨ls, hls, h⟩ := h
    by_cases hls2 : ls.length ≤ 1000
    case neg => rw [if_neg hls2] at h; cases h
    rw [if_pos hls2] at h
    replace h := Option.bind_eq_some_iff.mp h
    obtain ⟨r, hr, h⟩ := h
    simp only [Option.some.injEq, Prod.mk.injEq] at h
    obtain ⟨rfl, rfl⟩ := h
    obtain ⟨n, hn⟩ : ∃ n, n = l0.length := ⟨_, rfl⟩
    have HLS := Aside0.mk (show spec_lvAll.f k (n : Int) 0 = some ls by rw [hn]; exact hls)
    have HL := Lib.hid hls2
    have HNL := Aside0.mk hn
    have HT := Aside0.mk hk
    have HQ := Aside0.mk hfar
    have HRK := Aside0.mk ht
    have HF := Aside0.mk hr
    have HB := Aside0.mk (Below.refl w.heap.size w)
    have HV := Aside0.mk (show Kd.V (Kd.int .i64) 3 w w.heap.size (fun k_ => k_ < w.heap.size) (.slice A0 l0.length c0) l0 from Kd.V_mk HC.out (Kd.C_F (Kd.heap_int _) HR.out))
    clear hk hfar ht hr hls HR hn hls2
    go_enter Try.func14, Try.ntmps14
    go_wp2_with (first | ((with_reducible refine gate_callee (f := 23) rfl ?_); refine goesL_ (some 11) rfl rfl Try.func23 (by kernel_rfl) rfl #[.slice A0 l0.length c0] rfl (by (try simp only [List.map_toArray, List.map_cons, List.map_nil]); first | done | rfl) ?_; (with_reducible refine (spec_lvMade.calls k A0 c0 l0 true _ (Kd.V_reads' HV.out).2.2 HC.out HM.out).mono ?_); rintro e w1 ⟨rfl, ⟨qq, rfl⟩⟩; refine ⟨_, rfl, ?_⟩; replace HV := Aside0.mk (Kd.V_drewN HV.out qq); replace HB := Aside0.mk (pw_below_drewN HB.out qq)) | ((with_reducible refine gate_callee (f := 20) rfl ?_); refine goesL_ (some 15) rfl rfl Try.func20 (by kernel_rfl) rfl #[.int .i64 (l0.length : Int)] rfl (by (try simp only [List.map_toArray, List.map_cons, List.map_nil]); first | done | rfl) ?_; (with_reducible refine (spec_lvFar.calls k (l0.length : Int) far _ HQ.out).mono ?_); rintro e w2 ⟨vf, rfl, hR, hb⟩; refine ⟨_, rfl, ?_⟩; obtain ⟨AF, cF, eF⟩ := Kd.R_slice hR; subst eF; have HFAR := Aside0.mk (Kd.V_bound (Kd.R_V (base' := w.heap.size) hR)); replace HV := Aside0.mk (Kd.V_below HV.out hb); have HSF := Aside0.mk (show w.heap.size ≤ w2.heap.size from Nat.le_trans HB.out.size hb.size); replace HB := Aside0.mk (below_step HB.out hb); clear hR hb) | ((with_reducible refine gate_callee (f := 24) rfl ?_); refine goesL_ (some 18) rfl rfl Try.func24 (by kernel_rfl) rfl #[.slice A0 l0.length c0] rfl (by (try simp only [List.map_toArray, List.map_cons, List.map_nil]); first | done | rfl) ?_; (with_reducible refine (spec_alRank.calls k A0 c0 l0 t _ (Kd.V_reads' HV.out).2.2 HC.out HRK.out).mono ?_); rintro e w6 ⟨rfl, hdr⟩; refine ⟨_, rfl, ?_⟩; have hb := below_drawn hdr; replace HFAR := Aside0.mk (Kd.V_mono (ok' := fun k_ => k_ < w2.heap.size) (Kd.V_below HFAR.out hb) (fun k_ h_ => h_.2)); replace HV := Aside0.mk (Kd.V_below HV.out hb); have HSF2 := Aside0.mk hb.size; replace HB := Aside0.mk (below_step HB.out hb); clear hb hdr; obtain ⟨adf, ef, hxf⟩ := Kd.at_int (Kd.V_reads' HFAR.out).2.2 t HT.out.1 HT.out.2; cases ef; have p1 : (0 ≤ t) = True := eq_true HT.out.1; have q1 : (t < (far.length : Int)) = True := eq_true HT.out.2))
    clear hxf p1 q1 HQ HM HC
    go_loopg [0, 5, 6] k (fun gg v0 v5 v6 wr => ∃ (p : List Int) (out : List (List Int)) (left : Int) (okp : Nat → Prop), v6 = .int .i64 left ∧ Aside0 (slL k far ls gg p left out = some r) ∧ Aside0 (p.length = n) ∧ Aside0 (Kd.V (Kd.int .i64) 3 wr w.heap.size okp v0 p) ∧ Aside0 (Kd.S (Kd.slice 3 (Kd.int .i64)) 22 wr w.heap.size (fun _ => True) v5 out) ∧ Aside0 (∀ k_, okp k_ → some k_ ≠ v5.ownBlock) ∧ Aside0 (Kd.V (Kd.int .i64) 3 wr w.heap.size (fun k_ => k_ < w2.heap.size) (.slice (some adf) far.length cF) far) ∧ Aside0 (∀ k_, v5.ownBlock = some k_ → w2.heap.size ≤ k_) ∧ Aside0 (w2.heap.size ≤ wr.heap.size) ∧ Aside0 (Below w.heap.size w wr))
    case atStart => exact ⟨l0, [], rd far t, _, rfl, HF, ⟨HNL.out.symm⟩, HV, ⟨Kd.S_nil _ _ _ _ _⟩, ⟨fun k_ h_ e_ => by simp [Value.ownBlock] at e_⟩, HFAR, ⟨fun k_ e_ => by simp [Value.ownBlock] at e_⟩, HSF2, HB⟩
    case round =>
      clear HF HV HFAR HSF2 HB
      obtain ⟨p, out, left, okp, rfl, HF, HPL, HV, HO, HP, HFAR, HOF, HSW, HB⟩ := hrel
      obtain ⟨Ap, cp, ep⟩ := Kd.V_slice HV.out
      subst ep
      obtain ⟨vo, hvo⟩ : ∃ vo : Value, vo = u5 := ⟨_, rfl⟩
      rw [← hvo] at HO HP HOF ⊢
      cases gk with
      | zero => have hF := HF.out; simp [slL] at hF
      | succ gg =>
        have hF := HF.out
        clear HF
        simp only [slL] at hF
        by_cases hpos : 0 < left
        case neg =>
          rw [if_neg hpos] at hF
          obtain rfl := Option.some.inj hF
          have c1 : decide (0 < left) = false := decide_eq_false hpos
          have c2 : decide (left > 0) = false := decide_eq_false hpos
          clear hF hpos hvo
          go_wp2
          go_ret2
          exact ⟨_, rfl, HO.out, HB.out⟩
        case pos =>
          rw [if_pos hpos] at hF
          have c1 : decide (0 < left) = true := decide_eq_true hpos
          have c2 : decide (left > 0) = true := decide_eq_true hpos
          replace hF := Option.bind_eq_some_iff.mp hF
          obtain ⟨res, hres, hF⟩ := hF
          have HRES := Aside0.mk hres
          have HREST := Aside0.mk hF
          have HPN : (p.length : Int) = (n : Int) := by rw [HPL.out]
          have HPN' := Lib.hid HPN
          obtain ⟨s0, hs0⟩ : ∃ s0, s0 = wr.heap.size := ⟨_, rfl⟩
          have HS0 := Lib.hid hs0
          have HWR := Aside0.mk HB.out.size
          replace HO := Aside0.mk (Kd.S_mono (ok' := fun k_ => k_ < s0) (Kd.S_bound HO.out) (fun k_ h_ => by rw [hs0]; exact h_.2.2.1))
          have HV2 := Aside0.mk (Kd.V_mono (ok' := fun k_ => okp k_ ∧ k_ < s0) (Kd.V_bound HV.out) (fun k_ h_ => ⟨h_.1, by rw [hs0]; exact h_.2⟩))
          have HOL := Aside0.mk (show ∀ k_, vo.ownBlock = some k_ → k_ < s0 from fun k_ e_ => (Kd.S_R HO.out).1 k_ e_)
          clear hres hF hpos HV HPN hs0 hvo
          have HV := HV2
          clear HV2
          go_wp2_with (first | ((with_reducible refine gate_callee (f := 27) rfl ?_); refine goesL_ (some 27) rfl rfl Try.func27 (by kernel_rfl) rfl #[.int .i64 (n : Int), .int .i64 0] rfl (by (try simp only [List.map_toArray, List.map_cons, List.map_nil]); rw [← HPN'.out]; first | done | rfl) ?_; refine (spec_lvAll.calls k (n : Int) 0 ls wr HLS.out).mono ?_; rintro e w7 ⟨v7, rfl, hS, hb⟩; refine ⟨_, rfl, ?_⟩; have HLV := Aside0.mk (Kd.S_mono (ok' := fun k_ => s0 ≤ k_) (Kd.S_bound hS) (fun k_ h_ => by rw [HS0.out]; exact h_.2.1)); obtain ⟨AL, cL, eL⟩ := Kd.S_slice HLV.out; subst eL; replace HV := Aside0.mk (Kd.V_below HV.out hb); replace HO := Aside0.mk (Kd.S_below HO.out hb); replace HFAR := Aside0.mk (Kd.V_below HFAR.out hb); replace HSW := Aside0.mk (Nat.le_trans HSW.out hb.size); replace HB := Aside0.mk (below_step HB.out hb); have HSL := Aside0.mk (show s0 ≤ w7.heap.size by rw [HS0.out]; exact hb.size); clear hS hb))
          clear c1 c2
          go_loopg [0, 5, 29] ls.length (fun gh v0 v5 v29 wi => ∃ j : Nat, v0 = .slice Ap p.length cp ∧ v5 = vo ∧ v29 = .int .i64 (j : Int) ∧ Aside0 (slIn k far p left (ls.drop j) = some res) ∧ j ≤ ls.length ∧ ls.length - j ≤ gh ∧ Aside0 (Kd.V (Kd.int .i64) 3 wi w.heap.size (fun k_ => okp k_ ∧ k_ < s0) (.slice Ap p.length cp) p) ∧ Aside0 (Kd.S (Kd.slice 3 (Kd.int .i64)) 22 wi w.heap.size (fun k_ => k_ < s0) vo out) ∧ Aside0 (Kd.S (Kd.slice 3 (Kd.int .i64)) 22 wi wr.heap.size (fun k_ => s0 ≤ k_) (.slice AL ls.length cL) ls) ∧ Aside0 (Kd.V (Kd.int .i64) 3 wi w.heap.size (fun k_ => k_ < w2.heap.size) (.slice (some adf) far.length cF) far) ∧ Aside0 (Below w.heap.size w wi) ∧ Aside0 (s0 ≤ wi.heap.size) ∧ Aside0 (w2.heap.size ≤ wi.heap.size))
          case atStart => exact ⟨0, rfl, rfl, rfl, ⟨by rw [List.drop_zero]; exact HRES.out⟩, Nat.zero_le _, by omega, HV, HO, HLV, HFAR, HB, HSL, HSW⟩
          case round =>
            clear HV HO HLV HFAR HB HRES HSL HSW
            obtain ⟨j, e0, e5, rfl, HIN, hj, hgh, HV, HO, HLV, HFAR, HB, HSL, HSW⟩ := hrel
            subst e0
            subst e5
            by_cases hjl : j < ls.length
            · have hlj : ls[j]? = some ls[j] := List.getElem?_eq_getElem hjl
              obtain ⟨lv, hlv⟩ : ∃ lv, lv = ls[j] := ⟨_, rfl⟩
              rw [← hlv] at hlj
              have hI := HIN.out
              rw [List.drop_eq_getElem_cons hjl, ← hlv] at hI
              simp only [slIn] at hI
              replace hI := Option.bind_eq_some_iff.mp hI
              obtain ⟨x, hx1, hI⟩ := hI
              replace hI := Option.bind_eq_some_iff.mp hI
              obtain ⟨tx, htx, hI⟩ := hI
              by_cases hk2 : 0 ≤ tx ∧ tx < (far.length : Int)
              case neg => rw [if_neg hk2] at hI; cases hI
              rw [if_pos hk2] at hI
              obtain ⟨adl, Al, cl, eal, hxl, hRl⟩ := rows_at HLV.out j hlj
              cases eal
              have c1 : decide ((j : Int) < (ls.length : Int)) = true := decide_eq_true (by omega)
              have c2 : decide (j < ls.length) = true := decide_eq_true hjl
              have p2 : (0 ≤ (j : Int)) = True := eq_true (by omega)
              have q3 : ((j : Int) < (ls.length : Int)) = True := eq_true (by omega)
              have p4 : (0 ≤ tx) = True := eq_true hk2.1
              have q4 : (tx < (far.length : Int)) = True := eq_true hk2.2
              have HTX := Aside0.mk hk2
              have HTR := Aside0.mk htx
              have HVP : Aside0 (Kd.V (Kd.int .i64) 3 wr wr.heap.size (fun k_ => okp k_ ∧ k_ < s0) (.slice Ap p.length cp) p) := ⟨HV.out⟩
              have HRL := Aside0.mk hRl
              have HX := Aside0.mk hx1
              have HJ := Lib.hid hjl
              have HG := Lib.hid (show ls.length - (j + 1) ≤ gk - 1 ∧ gk - 1 < gk by omega)
              have HWJ := Lib.hid (show wrap64 ((j : Int) + 1) = ((j + 1 : Nat) : Int) by have := HL.out; unfold wrap64; omega)
              clear hlj hlv hk2 hx1 hjl hgh hj HIN hRl htx
              by_cases hit : rd far tx = wrap64 (left - 1)
              · rw [if_pos hit] at hI
                obtain rfl := Option.some.inj hI
                have hF := HREST.out
                simp only at hF
                by_cases hc : out.length < 1000 ∧ p.length = x.length
                case neg => rw [if_neg hc] at hF; cases hF
                rw [if_pos hc] at hF
                have HOUT := Lib.hid hc.1
                have HXL := Aside0.mk hc.2
                have HF2 := Aside0.mk hF
                have c3 : decide (rd far tx = wrap64 (left - 1)) = true := decide_eq_true hit
                have c4 : (rd far tx == wrap64 (left - 1)) = true := by rw [hit]; simp
                clear hI hit hF hc HREST
                go_wp2_with (first | ((with_reducible refine gate_callee (f := 28) rfl ?_); refine goesL_ (some 35) rfl rfl Try.func28 (by kernel_rfl) rfl #[.slice Ap p.length cp, .slice Al lv.length cl] rfl (by (try simp only [List.map_toArray, List.map_cons, List.map_nil]); first | done | rfl) ?_; (with_reducible refine (spec_lvTop.calls k _ Ap cp p Al cl lv x _ HVP.out (Kd.R_reads' HRL.out).2.2 (Kd.R_reads' HRL.out).2.1 HX.out).mono ?_); rintro ee w8 ⟨v8, rfl, hV, hb⟩; refine ⟨_, rfl, ?_⟩; obtain ⟨Ax, cx, ex⟩ := Kd.V_slice hV; subst ex; have HVX := Aside0.mk (Kd.V_mono (ok' := fun k_ => some k_ ≠ u5.ownBlock) hV (fun k_ h_ => h_.elim (fun h1 => HP.out k_ h1.1) (fun hn e_ => by have := HOL.out k_ e_.symm; have := HSL.out; omega))); replace HV := Aside0.mk (Kd.V_below HV.out hb); replace HO := Aside0.mk (Kd.S_below HO.out hb); replace HLV := Aside0.mk (Kd.S_below HLV.out hb); replace HRL := Aside0.mk (Kd.R_below HRL.out hb); replace HFAR := Aside0.mk (Kd.V_below HFAR.out hb); replace HB := Aside0.mk (below_step HB.out hb); replace HSL := Aside0.mk (Nat.le_trans HSL.out hb.size); replace HSW := Aside0.mk (Nat.le_trans HSW.out hb.size); clear hb hV hxl HVP) | ((with_reducible refine gate_callee (f := 24) rfl ?_); refine goesL_ (some 38) rfl rfl Try.func24 (by kernel_rfl) rfl #[.slice Ax x.length cx] rfl (by (try simp only [List.map_toArray, List.map_cons, List.map_nil]); first | done | rfl) ?_; (with_reducible refine (spec_alRank.calls k Ax cx x tx _ (Kd.V_reads' HVX.out).2.2 (Kd.V_reads' HVX.out).2.1 HTR.out).mono ?_); rintro ee w9 ⟨rfl, hdr⟩; refine ⟨_, rfl, ?_⟩; have hb := below_drawn hdr; replace HVX := Aside0.mk (Kd.V_below HVX.out hb); replace HV := Aside0.mk (Kd.V_below HV.out hb); replace HO := Aside0.mk (Kd.S_below HO.out hb); replace HLV := Aside0.mk (Kd.S_below HLV.out hb); replace HRL := Aside0.mk (Kd.R_below HRL.out hb); replace HFAR := Aside0.mk (Kd.V_below HFAR.out hb); replace HB := Aside0.mk (below_step HB.out hb); replace HSL := Aside0.mk (Nat.le_trans HSL.out hb.size); replace HSW := Aside0.mk (Nat.le_trans HSW.out hb.size); clear hb hdr; obtain ⟨adx, ef, hxf⟩ := Kd.at_int (Kd.V_reads' HFAR.out).2.2 tx HTX.out.1 HTX.out.2; cases ef) | ((with_reducible refine gate_builtin (b := .append) (xs := #[.tmp 44, .tmp 46]) rfl ?_); at_builtin; refine Kd.S_append (Kd.slice 3 (Kd.int .i64)) (w0 := w) w.heap.size rfl (.tmp 44) (.tmp 46) 32 22 (.slice none 0 0) 24 rfl Try.underlying32 info22 rfl (by decide) (by omega) u5 out lv [.slice Al lv.length cl] (fun _ => True) (fun k_ => s0 ≤ k_) rfl rfl ⟨_, rfl, Kd.R_mono (Kd.R_lower HRL.out HWR.out) (fun _ h_ => h_.1)⟩ (fun k_ h_ => ⟨trivial, fun e_ => by have := HOL.out k_ e_.symm; omega⟩) (fun _ _ => trivial) (Kd.S_mono HO.out (fun k_ h_ => ⟨trivial, by omega⟩)) HB.out HB.out.size (by have := HOUT.out; omega) ?_; intro v10 w10 hS hb hg hat; have HVX2 := Aside0.mk (Kd.V_bound HVX.out); replace HVX := Aside0.mk (Kd.V_step HVX2.out (fun k_ h_ hl_ => hg.block k_ hl_ h_.1)); have HP2 := Aside0.mk (show ∀ k_, (some k_ ≠ u5.ownBlock ∧ k_ < w9.heap.size) → some k_ ≠ v10.ownBlock from fun k_ h_ e_ => hat.elim (fun hat => h_.1 (e_.trans hat)) (fun hx_ => by obtain ⟨b_, hb_, hle_⟩ := hx_; rw [hb_] at e_; injection e_ with e_; have := h_.2; omega)); replace HFAR := Aside0.mk (Kd.V_step HFAR.out (fun k_ h_ hl_ => hg.block k_ hl_ (fun e_ => by have := HOF.out k_ e_.symm; omega))); have HOF2 := Aside0.mk (show ∀ k_, v10.ownBlock = some k_ → w2.heap.size ≤ k_ from fun k_ e_ => hat.elim (fun hat => HOF.out k_ (hat.symm.trans e_)) (fun hx_ => by obtain ⟨b_, hb_, hle_⟩ := hx_; rw [hb_] at e_; injection e_ with e_; have := HSW.out; omega)); have HSW2 := Aside0.mk (show w2.heap.size ≤ w10.heap.size from Nat.le_trans HSW.out hg.size); have HO2 := Aside0.mk hS; have HB2 := Aside0.mk hb; clear HB; have HB := HB2; clear HB2 hS hb hg hat HVX2))
                go_roundg gg
                case measure => exact Nat.lt_succ_self _
                case rel => exact ⟨x, out ++ [lv], wrap64 (left - 1), (fun k_ => some k_ ≠ u5.ownBlock ∧ k_ < w9.heap.size), rfl, HF2, ⟨by rw [← HXL.out]; exact HPL.out⟩, ⟨HVX.out⟩, HO2, HP2, HFAR, HOF2, HSW2, HB⟩
              · rw [if_neg hit] at hI
                have HI := Aside0.mk hI
                have c3 : decide (rd far tx = wrap64 (left - 1)) = false := decide_eq_false hit
                have c4 : (rd far tx == wrap64 (left - 1)) = false := by simpa using hit
                clear hI hit
                go_wp2_with (first | ((with_reducible refine gate_callee (f := 28) rfl ?_); refine goesL_ (some 35) rfl rfl Try.func28 (by kernel_rfl) rfl #[.slice Ap p.length cp, .slice Al lv.length cl] rfl (by (try simp only [List.map_toArray, List.map_cons, List.map_nil]); first | done | rfl) ?_; (with_reducible refine (spec_lvTop.calls k _ Ap cp p Al cl lv x _ HVP.out (Kd.R_reads' HRL.out).2.2 (Kd.R_reads' HRL.out).2.1 HX.out).mono ?_); rintro ee w8 ⟨v8, rfl, hV, hb⟩; refine ⟨_, rfl, ?_⟩; obtain ⟨Ax, cx, ex⟩ := Kd.V_slice hV; subst ex; have HVX := Aside0.mk (Kd.V_mono (ok' := fun k_ => some k_ ≠ u5.ownBlock) hV (fun k_ h_ => h_.elim (fun h1 => HP.out k_ h1.1) (fun hn e_ => by have := HOL.out k_ e_.symm; have := HSL.out; omega))); replace HV := Aside0.mk (Kd.V_below HV.out hb); replace HO := Aside0.mk (Kd.S_below HO.out hb); replace HLV := Aside0.mk (Kd.S_below HLV.out hb); replace HRL := Aside0.mk (Kd.R_below HRL.out hb); replace HFAR := Aside0.mk (Kd.V_below HFAR.out hb); replace HB := Aside0.mk (below_step HB.out hb); replace HSL := Aside0.mk (Nat.le_trans HSL.out hb.size); replace HSW := Aside0.mk (Nat.le_trans HSW.out hb.size); clear hb hV hxl HVP) | ((with_reducible refine gate_callee (f := 24) rfl ?_); refine goesL_ (some 38) rfl rfl Try.func24 (by kernel_rfl) rfl #[.slice Ax x.length cx] rfl (by (try simp only [List.map_toArray, List.map_cons, List.map_nil]); first | done | rfl) ?_; (with_reducible refine (spec_alRank.calls k Ax cx x tx _ (Kd.V_reads' HVX.out).2.2 (Kd.V_reads' HVX.out).2.1 HTR.out).mono ?_); rintro ee w9 ⟨rfl, hdr⟩; refine ⟨_, rfl, ?_⟩; have hb := below_drawn hdr; replace HVX := Aside0.mk (Kd.V_below HVX.out hb); replace HV := Aside0.mk (Kd.V_below HV.out hb); replace HO := Aside0.mk (Kd.S_below HO.out hb); replace HLV := Aside0.mk (Kd.S_below HLV.out hb); replace HRL := Aside0.mk (Kd.R_below HRL.out hb); replace HFAR := Aside0.mk (Kd.V_below HFAR.out hb); replace HB := Aside0.mk (below_step HB.out hb); replace HSL := Aside0.mk (Nat.le_trans HSL.out hb.size); replace HSW := Aside0.mk (Nat.le_trans HSW.out hb.size); clear hb hdr; obtain ⟨adx, ef, hxf⟩ := Kd.at_int (Kd.V_reads' HFAR.out).2.2 tx HTX.out.1 HTX.out.2; cases ef))
                go_roundg (gk - 1)
                case measure => exact HG.out.2
                case rel => exact ⟨j + 1, rfl, rfl, (by rw [HWJ.out]), HI, HJ.out, HG.out.1, HV, HO, HLV, HFAR, HB, HSL, HSW⟩
            · have c1 : decide ((j : Int) < (ls.length : Int)) = false := decide_eq_false (by omega)
              have c2 : decide (j < ls.length) = false := decide_eq_false (by omega)
              have hI := HIN.out
              rw [List.drop_of_length_le (by omega)] at hI
              simp only [slIn] at hI
              obtain rfl := Option.some.inj hI
              have HF2 := Aside0.mk (show slL k far ls gg p (wrap64 (left - 1)) out = some r from HREST.out)
              clear hI hjl hj hgh HIN HREST
              go_wp2
              go_roundg gg
              case measure => exact Nat.lt_succ_self _
              case rel => exact ⟨p, out, wrap64 (left - 1), (fun k_ => okp k_ ∧ k_ < s0), rfl, HF2, HPL, HV, ⟨Kd.S_mono HO.out (fun _ _ => trivial)⟩, ⟨fun k_ h_ => HP.out k_ h_.1⟩, HFAR, HOF, HSW, HB⟩


/-! ### impl_LeastLevels: function 15 -/
def llIn (k : Nat) (q : List (List Int × Int)) (p : List Int) (left : Int) : List (List Int) → Option (Option (List Int × List Int))
  | [] => some none
  | l :: ls => (impl_laid.f k p l).bind fun x => if keyOk k x = true then (if lookD q x = wrap64 (left - 1) then some (some (l, x)) else llIn k q p left ls) else none
def llL (k0 : Nat) (q : List (List Int × Int)) (ls : List (List Int)) : Nat → List Int → Int → List (List Int) → Option (List (List Int))
  | 0, _, _, _ => none
  | k + 1, p, left, out => if 0 < left then (llIn k0 q p left ls).bind fun r => match r with
      | none => llL k0 q ls k p (wrap64 (left - 1)) out
      | some s => if out.length < 1000 ∧ p.length = s.2.length then llL k0 q ls k s.2 (wrap64 (left - 1)) (out ++ [s.1]) else none
    else some out
def impl_LeastLevels.f (k : Nat) (l0 : List Int) : Option (List (List Int) × Bool) := (impl_isMade.f k l0).bind fun b => if b = true then (impl_depths.f k (l0.length : Int)).bind fun q => (if keyOk k l0 = true ∧ 2 ≤ l0.length ∧ l0.length ≤ 6 then (llL k q (lvl (l0.length - 1) 8 0 []) k l0 (lookD q l0) []).bind fun r => some (r, true) else none) else some ([], false)
theorem llIn_mono (k : Nat) (q : List (List Int × Int)) (p : List Int) (left : Int) : ∀ ls, LeO (llIn k q p left ls) (llIn (k + 1) q p left ls)
  | [] => LeO.refl _
  | _ :: _ => LeO.bind (impl_laid.mono _ _ _) fun _ => LeO.guard keyOk_mono (LeO.ite (LeO.refl _) (llIn_mono k q p left _))
theorem llL_mono (k0 : Nat) (q : List (List Int × Int)) (ls : List (List Int)) : ∀ k p left out, LeO (llL k0 q ls k p left out) (llL (k0 + 1) q ls (k + 1) p left out)
  | 0, _, _, _ => LeO.none _
  | k + 1, p, left, out => LeO.ite (LeO.bind (llIn_mono _ _ _ _ _) fun r => by
      cases r with
      | none => exact llL_mono k0 q ls k _ _ _
      | some s => exact LeO.ite (llL_mono k0 q ls k _ _ _) (LeO.refl _)) (LeO.refl _)
theorem impl_LeastLevels.mono : ∀ a0 k, LeO (impl_LeastLevels.f k a0) (impl_LeastLevels.f (k + 1) a0) := fun _ _ => LeO.bind (impl_isMade.mono _ _) fun _ => LeO.ite (LeO.bind (impl_depths.mono _ _) fun _ => LeO.guard (fun h => ⟨keyOk_mono h.1, h.2⟩) (LeO.bind (llL_mono _ _ _ _ _ _ _) fun _ => LeO.refl _)) (LeO.refl _)
/-- a level of a list of levels: where it stands, and what it owns -/
theorem s_at {W : World} {base : Nat} {ok : Nat → Prop} {A : Option Addr} {n cap : Nat} {xs : List (List Int)} {p : List Int} (h : Kd.S (Kd.slice 3 (Kd.int .i64)) 22 W base ok (.slice A n cap) xs) (i : Nat) (hi : xs[i]? = some p) :
    ∃ ad A' c', A = some ad ∧ W.cell? (ad.add i) = some (.slice A' p.length c') ∧ Kd.R (Kd.int .i64) 3 W base (fun k => ok k ∧ some k ≠ (Value.slice A n cap).ownBlock) (.slice A' p.length c') p := by
  have hC := (Kd.S_reads' h).2.2
  have hn := (Kd.S_reads' h).1
  obtain ⟨ad, A', c', rfl, hx, _, _⟩ := l_at hC i hi
  have hi2 := (List.getElem?_eq_some_iff.1 hi).1
  obtain ⟨c, hcl, hM, hcc⟩ := Kd.S_get h [] (i : Int) (by omega) (by omega)
  have ex : xs.getD (i : Int).toNat [] = p := by simp [hi]
  rw [ex] at hM
  obtain ⟨v, rfl, hR⟩ := hM
  have hv := hcc 0 _ rfl
  rw [show (i : Int).toNat * (Kd.slice 3 (Kd.int .i64)).sz + 0 = i by show (i : Int).toNat * 1 + 0 = i; omega, hx] at hv
  injection hv with hv
  subst hv
  exact ⟨ad, A', c', rfl, hx, hR⟩
theorem Dep.ne_cells {w : World} {bm : Nat} {q : List (List Int × Int)} (h : Dep w bm q) {k : Nat} {c : Array Value} {t : Nat} (hk : w.heap[k]? = some (.cells c t (0, 0))) : k ≠ bm := by
  obtain ⟨D, ⟨es, clock, hb, _⟩, _⟩ := h
  rintro rfl
  rw [hb] at hk
  cases hk
set_option maxHeartbeats 4000000 in
set_option maxRecDepth 100000 in
theorem impl_LeastLevels.calls (k : Nat) (A0 : Option Addr) (c0 : Nat) (l0 : List Int) (r1 : List (List Int)) (r2 : Bool) (w : World) (hr0 : Kd.C (Kd.int .i64) w A0 l0.length l0) (hc0 : l0.length ≤ c0) (h : impl_LeastLevels.f k l0 = some (r1, r2)) :
 Calls Try.prog 15 #[.slice A0 l0.length c0] w fun e w' => ∃ v0_ : Value, e = .returned (.tuple #[v0_, .bool r2]) ∧ Kd.S (Kd.slice 3 (Kd.int .i64)) 22 w' w.heap.size (fun _ => True) v0_ r1 ∧ Below w.heap.size w w' := by
  unfold impl_LeastLevels.f at h
  replace h := Option.bind_eq_some_iff.mp h
  obtain ⟨b, hb, h⟩ := h
  have HR := Aside0.mk hr0
  have HC := Aside0.mk hc0
  have HM := Aside0.mk hb
  clear hr0 hc0 hb
  cases b with
  | false =>
    rw [if_neg (by simp)] at h
    simp only [Option.some.injEq, Prod.mk.injEq] at h
    obtain ⟨rfl, rfl⟩ := h
    go_enter Try.func15, Try.ntmps15
    go_wp2_with (first | ((with_reducible refine gate_callee (f := 25) rfl ?_); refine goesL_ (some 11) rfl rfl Try.func25 (by kernel_rfl) rfl #[.slice A0 l0.length c0] rfl (by (try simp only [List.map_toArray, List.map_cons, List.map_nil]); first | done | rfl) ?_; (with_reducible refine (impl_isMade.calls k A0 c0 l0 false _ HR.out HC.out HM.out).mono ?_); rintro e w1 ⟨rfl, ⟨q, rfl⟩⟩; refine ⟨_, rfl, ?_⟩))
    go_ret2
    exact ⟨_, rfl, Kd.S_nil _ _ _ _ _, pw_below_drewN (Below.refl _ _) _⟩
  | true =>
    rw [if_pos rfl] at h
    replace h := Option.bind_eq_some_iff.mp h
    obtain ⟨q, hq, h⟩ := h
    by_cases hk : keyOk k l0 = true ∧ 2 ≤ l0.length ∧ l0.length ≤ 6
    case neg => rw [if_neg hk] at h; cases h
    rw [if_pos hk] at h
    replace h := Option.bind_eq_some_iff.mp h
    obtain ⟨r, hr, h⟩ := h
    simp only [Option.some.injEq, Prod.mk.injEq] at h
    obtain ⟨rfl, rfl⟩ := h
    obtain ⟨n, hn⟩ : ∃ n, n = l0.length := ⟨_, rfl⟩
    obtain ⟨ls, hls⟩ : ∃ ls, ls = lvl (l0.length - 1) 8 0 [] := ⟨_, rfl⟩
    rw [← hls] at hr
    have HLS := Aside0.mk hls
    have HL := Lib.hid (lvl_few (l0.length - 1) (by omega))
    have HN := Aside0.mk (show 2 ≤ n ∧ n ≤ 8 by omega)
    have HNL := Aside0.mk hn
    have HK := Aside0.mk (keyOk_ok hk.1)
    have HQ := Aside0.mk hq
    have HF := Aside0.mk hr
    have HB := Aside0.mk (Below.refl w.heap.size w)
    have HV := Aside0.mk (show Kd.V (Kd.int .i64) 3 w w.heap.size (fun k_ => k_ < w.heap.size) (.slice A0 l0.length c0) l0 from Kd.V_mk HC.out (Kd.C_F (Kd.heap_int _) HR.out))
    clear hk hq hr hls HR hn
    go_enter Try.func15, Try.ntmps15
    go_wp2_with (first | ((with_reducible refine gate_callee (f := 25) rfl ?_); refine goesL_ (some 11) rfl rfl Try.func25 (by kernel_rfl) rfl #[.slice A0 l0.length c0] rfl (by (try simp only [List.map_toArray, List.map_cons, List.map_nil]); first | done | rfl) ?_; (with_reducible refine (impl_isMade.calls k A0 c0 l0 true _ (Kd.V_reads' HV.out).2.2 HC.out HM.out).mono ?_); rintro e w1 ⟨rfl, ⟨qq, rfl⟩⟩; refine ⟨_, rfl, ?_⟩; replace HV := Aside0.mk (Kd.V_drewN HV.out qq); replace HB := Aside0.mk (pw_below_drewN HB.out qq)) | ((with_reducible refine gate_callee (f := 22) rfl ?_); refine goesL_ (some 15) rfl rfl Try.func22 (by kernel_rfl) rfl #[.int .i64 (l0.length : Int)] rfl (by (try simp only [List.map_toArray, List.map_cons, List.map_nil]); first | done | rfl) ?_; (with_reducible refine (impl_depths.calls k (l0.length : Int) q _ HQ.out).mono ?_); rintro e w2 ⟨bm, rfl, hbm, hD, hb⟩; refine ⟨_, rfl, ?_⟩; have HD := Aside0.mk hD; replace HV := Aside0.mk (Kd.V_below HV.out hb); replace HB := Aside0.mk (below_step HB.out hb); clear hbm hD hb) | ((with_reducible refine gate_dst (N := 16) rfl ?_); refine Kd.S_lit (Kd.slice 3 (Kd.int .i64)) _ 22 ?hg (N := 16) ?hd (xs := ([] : List (List Int))) (inner := []) (ok := fun _ => True) (okp := fun _ => True) ?hr ?hp (fun _ hk => hk) trivial (Below.refl _ _) (Nat.le_refl _) (by simp) ?_; (case hd => rfl); (case hg => rfl); (case hr => first | (go_simp; done) | (go_simp; rfl)); (case hp => exact (Reps.none _ _)); intro v5 w5 ho5 hb hg_ hnew_; clear hg_; have HOB := Aside0.mk (show ∀ k_, v5.ownBlock = some k_ → w.heap.size ≤ k_ from fun k_ e_ => Nat.le_trans HB.out.size (Kd.S_base ho5 k_ e_)); have HO := Aside0.mk (Kd.S_lower ho5 HB.out.size); replace HD := Aside0.mk (HD.out.below hb); replace HV := Aside0.mk (Kd.V_below HV.out hb); replace HB := Aside0.mk (below_step HB.out hb); clear ho5 hb hnew_) | ((with_reducible refine gate_callee (f := 26) rfl ?_); refine goesL_ (some 19) rfl rfl Try.func26 (by kernel_rfl) rfl #[.slice A0 l0.length c0] rfl (by (try simp only [List.map_toArray, List.map_cons, List.map_nil]); first | done | rfl) ?_; (with_reducible refine (impl_orderKey.calls k A0 c0 l0 (keyB l0) _ (Kd.V_reads' HV.out).2.2 HC.out HK.out.2).mono ?_); rintro e w6 ⟨rfl, hb⟩; refine ⟨_, rfl, ?_⟩; replace HD := Aside0.mk (HD.out.below hb); replace HV := Aside0.mk (Kd.V_below HV.out hb); replace HO := Aside0.mk (Kd.S_below HO.out hb); replace HB := Aside0.mk (below_step HB.out hb); clear hb) | ((with_reducible refine gate_ (.lookup 39 (.tmp 17) (.tmp 19) false) rfl ?_); refine dep_look (.tmp 17) (.tmp 19) rfl rfl bm q l0 rfl rfl HD.out HK.out.1 ?_))
    clear HK HQ HM HC
    go_loopg [0, 5, 6] k (fun gg v0 v5 v6 wr => ∃ (p : List Int) (out : List (List Int)) (left : Int) (okp : Nat → Prop), v6 = .int .i64 left ∧ Aside0 (llL k q ls gg p left out = some r) ∧ Aside0 (p.length = n) ∧ Aside0 (Kd.V (Kd.int .i64) 3 wr w.heap.size okp v0 p) ∧ Aside0 (Kd.S (Kd.slice 3 (Kd.int .i64)) 22 wr w.heap.size (fun _ => True) v5 out) ∧ Aside0 (∀ k_, okp k_ → some k_ ≠ v5.ownBlock) ∧ Aside0 (Dep wr bm q) ∧ Aside0 (Below w.heap.size w wr))
    case atStart => exact ⟨l0, [], lookD q l0, _, rfl, HF, ⟨HNL.out.symm⟩, HV, HO, ⟨fun k_ h_ e_ => by have := HOB.out k_ e_.symm; omega⟩, HD, HB⟩
    case round =>
      clear HF HV HO HOB HD HB
      obtain ⟨wq, hwq⟩ : ∃ wq : World, wq = wr := ⟨_, rfl⟩
      obtain ⟨p, out, left, okp, rfl, HF, HPL, HV, HO, HP, HD, HB⟩ := hrel
      obtain ⟨Ap, cp, ep⟩ := Kd.V_slice HV.out
      subst ep
      obtain ⟨vo, hvo⟩ : ∃ vo : Value, vo = u5 := ⟨_, rfl⟩
      rw [← hvo] at HO HP ⊢
      cases gk with
      | zero => have hF := HF.out; simp [llL] at hF
      | succ gg =>
        have hF := HF.out
        clear HF
        simp only [llL] at hF
        by_cases hpos : 0 < left
        case neg =>
          rw [if_neg hpos] at hF
          obtain rfl := Option.some.inj hF
          have c1 : decide (0 < left) = false := decide_eq_false hpos
          have c2 : decide (left > 0) = false := decide_eq_false hpos
          clear hF hpos hwq hvo
          go_wp2
          go_ret2
          exact ⟨_, rfl, HO.out, HB.out⟩
        case pos =>
          rw [if_pos hpos] at hF
          have c1 : decide (0 < left) = true := decide_eq_true hpos
          have c2 : decide (left > 0) = true := decide_eq_true hpos
          replace hF := Option.bind_eq_some_iff.mp hF
          obtain ⟨res, hres, hF⟩ := hF
          have HRES := Aside0.mk hres
          have HREST := Aside0.mk hF
          have HPN : (p.length : Int) = (n : Int) := by rw [HPL.out]
          have HPN' := Lib.hid HPN
          obtain ⟨s0, hs0⟩ : ∃ s0, s0 = wr.heap.size := ⟨_, rfl⟩
          have HS0 := Lib.hid hs0
          have HWR := Aside0.mk HB.out.size
          replace HO := Aside0.mk (Kd.S_mono (ok' := fun k_ => k_ < s0) (Kd.S_bound HO.out) (fun k_ h_ => by rw [hs0]; exact h_.2.2.1))
          have HV2 := Aside0.mk (Kd.V_mono (ok' := fun k_ => okp k_ ∧ k_ < s0) (Kd.V_bound HV.out) (fun k_ h_ => ⟨h_.1, by rw [hs0]; exact h_.2⟩))
          have HOL := Aside0.mk (show ∀ k_, vo.ownBlock = some k_ → k_ < s0 from fun k_ e_ => (Kd.S_R HO.out).1 k_ e_)
          clear hres hF hpos hwq HV HPN hs0 hvo
          have HV := HV2
          clear HV2
          go_wp2_with (first | ((with_reducible refine gate_callee (f := 29) rfl ?_); refine goesL_ (some 27) rfl rfl Try.func29 (by kernel_rfl) rfl #[.int .i64 (n : Int), .slice none ([] : List Int).length 0, .int .i64 ((0 : Nat) : Int), .slice none 0 0] rfl (by (try simp only [List.map_toArray, List.map_cons, List.map_nil]); rw [← HPN'.out]; first | done | rfl) ?_; refine (allLevels_gen n HN.out.1 HN.out.2 8 0 none 0 [] (.slice none 0 0) [] (fun _ => False) (fun _ => False) wr _ (by omega) (by have := HN.out; omega) (by simp) (by have := HL.out; rw [← HNL.out] at this; simp; omega) (Below.refl _ _) (Kd.R_nil _ _ _ _ _) (Kd.S_nil _ _ _ _ _) (fun _ h => h.elim)).mono ?_; rintro e w7 ⟨v7, rfl, hS, hb, _, _⟩; refine ⟨_, rfl, ?_⟩; simp only [List.nil_append] at hS; rw [show lvl (n - 1) 8 0 [] = ls by rw [HLS.out, HNL.out]] at hS; have HLV := Aside0.mk (Kd.S_mono (ok' := fun k_ => s0 ≤ k_) hS (fun k_ h_ => by rw [HS0.out]; exact h_.elim (fun h_ => h_.elim) (fun h_ => h_.elim (fun h_ => h_.elim) id))); obtain ⟨AL, cL, eL⟩ := Kd.S_slice HLV.out; subst eL; replace HV := Aside0.mk (Kd.V_below HV.out hb); replace HO := Aside0.mk (Kd.S_below HO.out hb); replace HD := Aside0.mk (HD.out.below hb); replace HB := Aside0.mk (below_step HB.out hb); have HSL := Aside0.mk (show s0 ≤ w7.heap.size by rw [HS0.out]; exact hb.size); clear hS hb))
          clear c1 c2
          go_loopg [0, 5, 29] ls.length (fun gh v0 v5 v29 wi => ∃ j : Nat, v0 = .slice Ap p.length cp ∧ v5 = vo ∧ v29 = .int .i64 (j : Int) ∧ Aside0 (llIn k q p left (ls.drop j) = some res) ∧ j ≤ ls.length ∧ ls.length - j ≤ gh ∧ Aside0 (Kd.V (Kd.int .i64) 3 wi w.heap.size (fun k_ => okp k_ ∧ k_ < s0) (.slice Ap p.length cp) p) ∧ Aside0 (Kd.S (Kd.slice 3 (Kd.int .i64)) 22 wi w.heap.size (fun k_ => k_ < s0) vo out) ∧ Aside0 (Kd.S (Kd.slice 3 (Kd.int .i64)) 22 wi wr.heap.size (fun k_ => s0 ≤ k_) (.slice AL ls.length cL) ls) ∧ Aside0 (Dep wi bm q) ∧ Aside0 (Below w.heap.size w wi) ∧ Aside0 (s0 ≤ wi.heap.size))
          case atStart => exact ⟨0, rfl, rfl, rfl, ⟨by rw [List.drop_zero]; exact HRES.out⟩, Nat.zero_le _, by omega, HV, HO, HLV, HD, HB, HSL⟩
          case round =>
            clear HV HO HLV HD HB HRES HSL
            obtain ⟨wj, hwj⟩ : ∃ wj : World, wj = wr := ⟨_, rfl⟩
            obtain ⟨j, e0, e5, rfl, HIN, hj, hgh, HV, HO, HLV, HD, HB, HSL⟩ := hrel
            subst e0
            subst e5
            by_cases hjl : j < ls.length
            · have hlj : ls[j]? = some ls[j] := List.getElem?_eq_getElem hjl
              obtain ⟨lv, hlv⟩ : ∃ lv, lv = ls[j] := ⟨_, rfl⟩
              rw [← hlv] at hlj
              have hI := HIN.out
              rw [List.drop_eq_getElem_cons hjl, ← hlv] at hI
              simp only [llIn] at hI
              replace hI := Option.bind_eq_some_iff.mp hI
              obtain ⟨x, hx1, hI⟩ := hI
              by_cases hk2 : keyOk k x = true
              case neg => rw [if_neg hk2] at hI; cases hI
              rw [if_pos hk2] at hI
              obtain ⟨adl, Al, cl, eal, hxl, hRl⟩ := s_at HLV.out j hlj
              cases eal
              have c1 : decide ((j : Int) < (ls.length : Int)) = true := decide_eq_true (by omega)
              have c2 : decide (j < ls.length) = true := decide_eq_true hjl
              have p2 : (0 ≤ (j : Int)) = True := eq_true (by omega)
              have q3 : ((j : Int) < (ls.length : Int)) = True := eq_true (by omega)
              have HVP : Aside0 (Kd.V (Kd.int .i64) 3 wr wr.heap.size (fun k_ => okp k_ ∧ k_ < s0) (.slice Ap p.length cp) p) := ⟨HV.out⟩
              have HRL := Aside0.mk hRl
              have HX := Aside0.mk hx1
              have HKX := Aside0.mk (keyOk_ok hk2)
              have HJ := Lib.hid hjl
              have HG := Lib.hid (show ls.length - (j + 1) ≤ gk - 1 ∧ gk - 1 < gk by omega)
              have HWJ := Lib.hid (show wrap64 ((j : Int) + 1) = ((j + 1 : Nat) : Int) by have := HL.out; rw [← HLS.out] at this; unfold wrap64; omega)
              clear hlj hlv hk2 hx1 hjl hgh hj HIN hRl
              by_cases hit : lookD q x = wrap64 (left - 1)
              · rw [if_pos hit] at hI
                obtain rfl := Option.some.inj hI
                have hF := HREST.out
                simp only at hF
                by_cases hc : out.length < 1000 ∧ p.length = x.length
                case neg => rw [if_neg hc] at hF; cases hF
                rw [if_pos hc] at hF
                have HOUT := Lib.hid hc.1
                have HXL := Aside0.mk hc.2
                have HF2 := Aside0.mk hF
                have c3 : decide (lookD q x = wrap64 (left - 1)) = true := decide_eq_true hit
                have c4 : (lookD q x == wrap64 (left - 1)) = true := by rw [hit]; simp
                clear hI hit hF hc HREST hwj
                go_wp2_with (first | ((with_reducible refine gate_callee (f := 30) rfl ?_); refine goesL_ (some 35) rfl rfl Try.func30 (by kernel_rfl) rfl #[.slice Ap p.length cp, .slice Al lv.length cl] rfl (by (try simp only [List.map_toArray, List.map_cons, List.map_nil]); first | done | rfl) ?_; (with_reducible refine (impl_laid.calls k _ Ap cp p Al cl lv x _ HVP.out (Kd.R_reads' HRL.out).2.2 (Kd.R_reads' HRL.out).2.1 HX.out).mono ?_); rintro ee w8 ⟨v8, rfl, hV, hb⟩; refine ⟨_, rfl, ?_⟩; obtain ⟨Ax, cx, ex⟩ := Kd.V_slice hV; subst ex; have HVX := Aside0.mk (Kd.V_mono (ok' := fun k_ => some k_ ≠ u5.ownBlock) hV (fun k_ h_ => h_.elim (fun h1 => HP.out k_ h1.1) (fun hn e_ => by have := HOL.out k_ e_.symm; have := HSL.out; omega))); replace HV := Aside0.mk (Kd.V_below HV.out hb); replace HO := Aside0.mk (Kd.S_below HO.out hb); replace HLV := Aside0.mk (Kd.S_below HLV.out hb); replace HRL := Aside0.mk (Kd.R_below HRL.out hb); replace HD := Aside0.mk (HD.out.below hb); replace HB := Aside0.mk (below_step HB.out hb); replace HSL := Aside0.mk (Nat.le_trans HSL.out hb.size); clear hb hV hxl HVP) | ((with_reducible refine gate_callee (f := 26) rfl ?_); refine goesL_ (some 38) rfl rfl Try.func26 (by kernel_rfl) rfl #[.slice Ax x.length cx] rfl (by (try simp only [List.map_toArray, List.map_cons, List.map_nil]); first | done | rfl) ?_; (with_reducible refine (impl_orderKey.calls k Ax cx x (keyB x) _ (Kd.V_reads' HVX.out).2.2 (Kd.V_reads' HVX.out).2.1 HKX.out.2).mono ?_); rintro ee w9 ⟨rfl, hb⟩; refine ⟨_, rfl, ?_⟩; replace HVX := Aside0.mk (Kd.V_below HVX.out hb); replace HV := Aside0.mk (Kd.V_below HV.out hb); replace HO := Aside0.mk (Kd.S_below HO.out hb); replace HLV := Aside0.mk (Kd.S_below HLV.out hb); replace HRL := Aside0.mk (Kd.R_below HRL.out hb); replace HD := Aside0.mk (HD.out.below hb); replace HB := Aside0.mk (below_step HB.out hb); replace HSL := Aside0.mk (Nat.le_trans HSL.out hb.size); clear hb) | ((with_reducible refine gate_ (.lookup 39 (.tmp 36) (.tmp 38) false) rfl ?_); refine dep_look (.tmp 36) (.tmp 38) rfl rfl bm q x rfl rfl HD.out HKX.out.1 ?_) | ((with_reducible refine gate_builtin (b := .append) (xs := #[.tmp 43, .tmp 45]) rfl ?_); at_builtin; refine Kd.S_append (Kd.slice 3 (Kd.int .i64)) (w0 := w) w.heap.size rfl (.tmp 43) (.tmp 45) 32 22 (.slice none 0 0) 24 rfl Try.underlying32 info22 rfl (by decide) (by omega) u5 out lv [.slice Al lv.length cl] (fun _ => True) (fun k_ => s0 ≤ k_) rfl rfl ⟨_, rfl, Kd.R_mono (Kd.R_lower HRL.out HWR.out) (fun _ h_ => h_.1)⟩ (fun k_ h_ => ⟨trivial, fun e_ => by have := HOL.out k_ e_.symm; omega⟩) (fun _ _ => trivial) (Kd.S_mono HO.out (fun k_ h_ => ⟨trivial, by omega⟩)) HB.out HB.out.size (by have := HOUT.out; omega) ?_; intro v10 w10 hS hb hg hat; have HVX2 := Aside0.mk (Kd.V_bound HVX.out); replace HVX := Aside0.mk (Kd.V_step HVX2.out (fun k_ h_ hl_ => hg.block k_ hl_ h_.1)); have HP2 := Aside0.mk (show ∀ k_, (some k_ ≠ u5.ownBlock ∧ k_ < w9.heap.size) → some k_ ≠ v10.ownBlock from fun k_ h_ e_ => hat.elim (fun hat => h_.1 (e_.trans hat)) (fun hx_ => by obtain ⟨b_, hb_, hle_⟩ := hx_; rw [hb_] at e_; injection e_ with e_; have := h_.2; omega)); replace HD := Aside0.mk (HD.out.kept hg (fun e_ => by obtain ⟨c_, hc_⟩ := Kd.S_typed HO.out bm e_.symm; exact HD.out.ne_cells hc_ rfl)); have HO2 := Aside0.mk hS; have HB2 := Aside0.mk hb; clear HB; have HB := HB2; clear HB2 hS hb hg hat HVX2))
                go_roundg gg
                case measure => exact Nat.lt_succ_self _
                case rel => exact ⟨x, out ++ [lv], wrap64 (left - 1), (fun k_ => some k_ ≠ u5.ownBlock ∧ k_ < w9.heap.size), rfl, HF2, ⟨by rw [← HXL.out]; exact HPL.out⟩, ⟨HVX.out⟩, HO2, HP2, HD, HB⟩
              · rw [if_neg hit] at hI
                have HI := Aside0.mk hI
                have c3 : decide (lookD q x = wrap64 (left - 1)) = false := decide_eq_false hit
                have c4 : (lookD q x == wrap64 (left - 1)) = false := by simpa using hit
                clear hI hit hwj
                go_wp2_with (first | ((with_reducible refine gate_callee (f := 30) rfl ?_); refine goesL_ (some 35) rfl rfl Try.func30 (by kernel_rfl) rfl #[.slice Ap p.length cp, .slice Al lv.length cl] rfl (by (try simp only [List.map_toArray, List.map_cons, List.map_nil]); first | done | rfl) ?_; (with_reducible refine (impl_laid.calls k _ Ap cp p Al cl lv x _ HVP.out (Kd.R_reads' HRL.out).2.2 (Kd.R_reads' HRL.out).2.1 HX.out).mono ?_); rintro ee w8 ⟨v8, rfl, hV, hb⟩; refine ⟨_, rfl, ?_⟩; obtain ⟨Ax, cx, ex⟩ := Kd.V_slice hV; subst ex; have HVX := Aside0.mk (Kd.V_mono (ok' := fun k_ => some k_ ≠ u5.ownBlock) hV (fun k_ h_ => h_.elim (fun h1 => HP.out k_ h1.1) (fun hn e_ => by have := HOL.out k_ e_.symm; have := HSL.out; omega))); replace HV := Aside0.mk (Kd.V_below HV.out hb); replace HO := Aside0.mk (Kd.S_below HO.out hb); replace HLV := Aside0.mk (Kd.S_below HLV.out hb); replace HRL := Aside0.mk (Kd.R_below HRL.out hb); replace HD := Aside0.mk (HD.out.below hb); replace HB := Aside0.mk (below_step HB.out hb); replace HSL := Aside0.mk (Nat.le_trans HSL.out hb.size); clear hb hV hxl HVP) | ((with_reducible refine gate_callee (f := 26) rfl ?_); refine goesL_ (some 38) rfl rfl Try.func26 (by kernel_rfl) rfl #[.slice Ax x.length cx] rfl (by (try simp only [List.map_toArray, List.map_cons, List.map_nil]); first | done | rfl) ?_; (with_reducible refine (impl_orderKey.calls k Ax cx x (keyB x) _ (Kd.V_reads' HVX.out).2.2 (Kd.V_reads' HVX.out).2.1 HKX.out.2).mono ?_); rintro ee w9 ⟨rfl, hb⟩; refine ⟨_, rfl, ?_⟩; replace HVX := Aside0.mk (Kd.V_below HVX.out hb); replace HV := Aside0.mk (Kd.V_below HV.out hb); replace HO := Aside0.mk (Kd.S_below HO.out hb); replace HLV := Aside0.mk (Kd.S_below HLV.out hb); replace HRL := Aside0.mk (Kd.R_below HRL.out hb); replace HD := Aside0.mk (HD.out.below hb); replace HB := Aside0.mk (below_step HB.out hb); replace HSL := Aside0.mk (Nat.le_trans HSL.out hb.size); clear hb) | ((with_reducible refine gate_ (.lookup 39 (.tmp 36) (.tmp 38) false) rfl ?_); refine dep_look (.tmp 36) (.tmp 38) rfl rfl bm q x rfl rfl HD.out HKX.out.1 ?_))
                go_roundg (gk - 1)
                case measure => exact HG.out.2
                case rel => exact ⟨j + 1, rfl, rfl, (by rw [HWJ.out]), HI, HJ.out, HG.out.1, HV, HO, HLV, HD, HB, HSL⟩
            · have c1 : decide ((j : Int) < (ls.length : Int)) = false := decide_eq_false (by omega)
              have c2 : decide (j < ls.length) = false := decide_eq_false (by omega)
              have hI := HIN.out
              rw [List.drop_of_length_le (by omega)] at hI
              simp only [llIn] at hI
              obtain rfl := Option.some.inj hI
              have HF2 := Aside0.mk (show llL k q ls gg p (wrap64 (left - 1)) out = some r from HREST.out)
              clear hI hjl hj hgh HIN HREST hwj
              go_wp2
              go_roundg gg
              case measure => exact Nat.lt_succ_self _
              case rel => exact ⟨p, out, wrap64 (left - 1), (fun k_ => okp k_ ∧ k_ < s0), rfl, HF2, HPL, HV, ⟨Kd.S_mono HO.out (fun _ _ => trivial)⟩, ⟨fun k_ h_ => HP.out k_ h_.1⟩, HD, HB⟩


/-! ### laws_eqIntSS: function 16 -/
def laws_eqIntSS.l0 : Nat → List (List Int) → List (List Int) → Int → Option (Bool)
  | 0, _, _, _ => none
  | k + 1, x0, x1, x5 => if x5 < (x0.length : Int) then (if 0 ≤ x5 then (if x5 < (x1.length : Int) then ((laws_eqIntS.f k (rd_L1 x0 x5) (rd_L1 x1 x5)).bind fun t280 => (if t280 = true then (laws_eqIntSS.l0 k x0 x1 (wrap64 (x5 + 1))) else (some false))) else (none)) else (none)) else (some true)
def laws_eqIntSS.f (k : Nat) (l0 : List (List Int)) (l1 : List (List Int)) : Option (Bool) := if (l0.length : Int) = (l1.length : Int) then (laws_eqIntSS.l0 k l0 l1 0) else (some false)
theorem laws_eqIntSS.mono_l : ∀ k, (∀ y0 y1 y2, LeO (laws_eqIntSS.l0 k y0 y1 y2) (laws_eqIntSS.l0 (k + 1) y0 y1 y2))
  | 0 => fun _ _ _ r h => by simp [laws_eqIntSS.l0] at h
  | k + 1 => by
    have ih0 := laws_eqIntSS.mono_l k
    · intro y0 y1 y2
      unfold laws_eqIntSS.l0
      repeat' first
      | (with_reducible exact ih0 _ _ _)
      | (with_reducible exact laws_eqIntS.mono _ _ _)
      | (with_reducible exact LeO.refl _)
      | (with_reducible exact LeO.none _)
      | (with_reducible refine LeO.ite ?_ ?_)
      | (with_reducible refine LeO.bind ?_ (fun _ => ?_))
      | exact ih0 _ _ _
      | exact laws_eqIntS.mono _ _ _
      | exact LeO.none _
      | refine LeO.ite ?_ ?_
      | refine LeO.bind ?_ (fun _ => ?_)
theorem laws_eqIntSS.mono : ∀ a0 a1 k, LeO (laws_eqIntSS.f k a0 a1) (laws_eqIntSS.f (k + 1) a0 a1) := by
  intro a0 a1 k
  have ih0 := laws_eqIntSS.mono_l k
  unfold laws_eqIntSS.f
  repeat' first
      | (with_reducible exact ih0 _ _ _)
      | (with_reducible exact laws_eqIntS.mono _ _ _)
      | (with_reducible exact LeO.refl _)
      | (with_reducible exact LeO.none _)
      | (with_reducible refine LeO.ite ?_ ?_)
      | (with_reducible refine LeO.bind ?_ (fun _ => ?_))
      | exact ih0 _ _ _
      | exact laws_eqIntS.mono _ _ _
      | exact LeO.none _
      | refine LeO.ite ?_ ?_
      | refine LeO.bind ?_ (fun _ => ?_)
set_option maxHeartbeats 8000000 in
set_option maxRecDepth 100000 in
theorem laws_eqIntSS.calls (k : Nat) (A0 : Option Addr) (c0 : Nat) (l0 : List (List Int)) (A1 : Option Addr) (c1 : Nat) (l1 : List (List Int)) (r : Bool) (w : World) (hr0 : Kd.C (Kd.slice 3 (Kd.int .i64)) w A0 l0.length l0) (hc0 : l0.length ≤ c0) (hr1 : Kd.C (Kd.slice 3 (Kd.int .i64)) w A1 l1.length l1) (hc1 : l1.length ≤ c1) (h : laws_eqIntSS.f k l0 l1 = some r) :
    Calls Try.prog 16 #[.slice A0 l0.length c0, .slice A1 l1.length c1] w fun e w' => e = .returned (.bool r) ∧ Drawn0 w w' := by
  have HR0 := Aside0.mk hr0
  have HC0 := Aside0.mk hc0
  clear hr0 hc0
  have HR1 := Aside0.mk hr1
  have HC1 := Aside0.mk hc1
  clear hr1 hc1
  have H : (if (l0.length : Int) = (l1.length : Int) then (laws_eqIntSS.l0 k l0 l1 0) else (some false)) = some r := h
  clear h
  by_cases c3 : (l0.length : Int) = (l1.length : Int)
  · rw [if_pos c3] at H
    have c3b0 : ((l0.length : Int) == (l1.length : Int)) = true := beq_iff_eq.mpr c3
    have c3b1 : ((l0.length : Int) != (l1.length : Int)) = false := bne_eq_false_iff_eq.mpr c3
    have c3b2 : (l0.length == l1.length) = true := by first | simpa using c3 | (simp at c3 ⊢; omega)
    clear c3
    have H' := Aside0.mk H
    clear H
    go_enter Try.func16, Try.ntmps16
    go_wp2
    repeat (go_quiet (fail); try go_wp2)
    go_loopg [5] k (fun kq v5 w' => ∃ (x5_1 : Int), v5 = .int .i64 x5_1 ∧ Aside0 (laws_eqIntSS.l0 kq l0 l1 x5_1 = some r) ∧ Aside0 (kq ≤ k) ∧ Drawn0 w w')
    case atStart => exact ⟨(0), (by first | rfl | (simp; done) | (simp [*]; done)), H', ⟨Nat.le_refl _⟩, by repeat (first | exact Drawn0.refl _ | apply Drawn0.step)⟩
    case round =>
      clear H'
      try clear c1
      try clear p2
      try clear c3
      try clear c3b0
      try clear c3b1
      try clear c3b2
      obtain ⟨x5_1, rfl, HA, HK1, ⟨m1, rfl⟩⟩ := hrel
      cases gk with
      | zero => exact absurd HA.out (by simp [laws_eqIntSS.l0])
      | succ k1 =>
        have H := HA.out
        clear HA
        simp only [laws_eqIntSS.l0] at H
        by_cases c4 : x5_1 < (l0.length : Int)
        · rw [if_pos c4] at H
          have c4b0 : decide (x5_1 < (l0.length : Int)) = true := decide_eq_true c4
          clear c4
          by_cases c5 : 0 ≤ x5_1
          · rw [if_pos c5] at H
            have c5b0 : decide (0 ≤ x5_1) = true := decide_eq_true c5
            clear c5
            by_cases c6 : x5_1 < (l1.length : Int)
            · rw [if_pos c6] at H
              have c6b0 : decide (x5_1 < (l1.length : Int)) = true := decide_eq_true c6
              clear c6
              replace H := Option.bind_eq_some_iff.mp H
              obtain ⟨t280, A70, H⟩ := H
              replace H : (if t280 = true then (laws_eqIntSS.l0 k1 l0 l1 (wrap64 (x5_1 + 1))) else (some false)) = some r := H
              have A7 := Aside0.mk A70
              clear A70
              by_cases c8 : t280 = true
              · subst c8
                have H1 : (laws_eqIntSS.l0 k1 l0 l1 (wrap64 (x5_1 + 1))) = some r := by rw [if_pos rfl] at H; exact H
                clear H
                have H := H1
                clear H1
                have H' := Aside0.mk H
                clear H
                have p278 : 0 ≤ (x5_1 : Int) := of_decide_eq_true (by first | (with_reducible assumption) | assumption)
                have q278 : x5_1 < (l0.length : Int) := of_decide_eq_true (by first | (with_reducible assumption) | assumption)
                obtain ⟨ad278, A278_0, c278_0, e278, hx278_0, hl278_0, hi278_0⟩ := at_L1 HR0.out x5_1 p278 q278
                cases e278
                have HR278_0 := Aside0.mk hi278_0
                have HC278_0 := Aside0.mk hl278_0
                clear hi278_0 hl278_0
                replace p278 := eq_true p278
                replace q278 := eq_true q278
                have p279 : 0 ≤ (x5_1 : Int) := of_decide_eq_true (by first | (with_reducible assumption) | assumption)
                have q279 : x5_1 < (l1.length : Int) := of_decide_eq_true (by first | (with_reducible assumption) | assumption)
                obtain ⟨ad279, A279_0, c279_0, e279, hx279_0, hl279_0, hi279_0⟩ := at_L1 HR1.out x5_1 p279 q279
                cases e279
                have HR279_0 := Aside0.mk hi279_0
                have HC279_0 := Aside0.mk hl279_0
                clear hi279_0 hl279_0
                replace p279 := eq_true p279
                replace q279 := eq_true q279
                go_wp2_with (first | (go_at_call 8; (with_reducible refine (laws_eqIntS.calls k1 _ _ (rd_L1 l0 x5_1) _ _ (rd_L1 l1 x5_1) true _ ?side1 ?side2 ?side3 ?side4 A7.out).mono ?_); (case side1 => repeat (first | exact HR278_0.out | (with_reducible refine Kd.C_alloc ?_ _) | (with_reducible refine Kd.C_drewN ?_ _) | (with_reducible refine Kd.C_drew ?_))); (case side2 => exact HC278_0.out); (case side3 => repeat (first | exact HR279_0.out | (with_reducible refine Kd.C_alloc ?_ _) | (with_reducible refine Kd.C_drewN ?_ _) | (with_reducible refine Kd.C_drew ?_))); (case side4 => exact HC279_0.out); rintro e w' ⟨rfl, ⟨nd, rfl⟩⟩; (try first | exact ⟨rfl, _, World.drewN_drewN _ _ _⟩ | exact ⟨rfl, _, Eq.trans (World.drewN_drewN _ _ _) (congrArg (World.drewN _) (Nat.add_assoc _ _ _))⟩)))
                repeat (go_quiet (first | (go_at_call 8; (with_reducible refine (laws_eqIntS.calls k1 _ _ (rd_L1 l0 x5_1) _ _ (rd_L1 l1 x5_1) true _ ?side1 ?side2 ?side3 ?side4 A7.out).mono ?_); (case side1 => repeat (first | exact HR278_0.out | (with_reducible refine Kd.C_alloc ?_ _) | (with_reducible refine Kd.C_drewN ?_ _) | (with_reducible refine Kd.C_drew ?_))); (case side2 => exact HC278_0.out); (case side3 => repeat (first | exact HR279_0.out | (with_reducible refine Kd.C_alloc ?_ _) | (with_reducible refine Kd.C_drewN ?_ _) | (with_reducible refine Kd.C_drew ?_))); (case side4 => exact HC279_0.out); rintro e w' ⟨rfl, ⟨nd, rfl⟩⟩; (try first | exact ⟨rfl, _, World.drewN_drewN _ _ _⟩ | exact ⟨rfl, _, Eq.trans (World.drewN_drewN _ _ _) (congrArg (World.drewN _) (Nat.add_assoc _ _ _))⟩))); try go_wp2_with (first | (go_at_call 8; (with_reducible refine (laws_eqIntS.calls k1 _ _ (rd_L1 l0 x5_1) _ _ (rd_L1 l1 x5_1) true _ ?side1 ?side2 ?side3 ?side4 A7.out).mono ?_); (case side1 => repeat (first | exact HR278_0.out | (with_reducible refine Kd.C_alloc ?_ _) | (with_reducible refine Kd.C_drewN ?_ _) | (with_reducible refine Kd.C_drew ?_))); (case side2 => exact HC278_0.out); (case side3 => repeat (first | exact HR279_0.out | (with_reducible refine Kd.C_alloc ?_ _) | (with_reducible refine Kd.C_drewN ?_ _) | (with_reducible refine Kd.C_drew ?_))); (case side4 => exact HC279_0.out); rintro e w' ⟨rfl, ⟨nd, rfl⟩⟩; (try first | exact ⟨rfl, _, World.drewN_drewN _ _ _⟩ | exact ⟨rfl, _, Eq.trans (World.drewN_drewN _ _ _) (congrArg (World.drewN _) (Nat.add_assoc _ _ _))⟩))))
                go_roundg k1
                case measure => have := HK1.out; omega
                case rel => exact ⟨(wrap64 (x5_1 + 1)), (by first | rfl | (simp; done) | (simp [*]; done)), H', ⟨by have := HK1.out; omega⟩, by repeat (first | exact Drawn0.refl _ | apply Drawn0.step)⟩
              · replace c8 := Bool.eq_false_iff.mpr c8
                subst c8
                have H1 : (some false) = some r := by rw [if_neg (show ¬ (false = true) by decide)] at H; exact H
                clear H
                have H := H1
                clear H1
                obtain rfl := Option.some.inj H
                have p278 : 0 ≤ (x5_1 : Int) := of_decide_eq_true (by first | (with_reducible assumption) | assumption)
                have q278 : x5_1 < (l0.length : Int) := of_decide_eq_true (by first | (with_reducible assumption) | assumption)
                obtain ⟨ad278, A278_0, c278_0, e278, hx278_0, hl278_0, hi278_0⟩ := at_L1 HR0.out x5_1 p278 q278
                cases e278
                have HR278_0 := Aside0.mk hi278_0
                have HC278_0 := Aside0.mk hl278_0
                clear hi278_0 hl278_0
                replace p278 := eq_true p278
                replace q278 := eq_true q278
                have p279 : 0 ≤ (x5_1 : Int) := of_decide_eq_true (by first | (with_reducible assumption) | assumption)
                have q279 : x5_1 < (l1.length : Int) := of_decide_eq_true (by first | (with_reducible assumption) | assumption)
                obtain ⟨ad279, A279_0, c279_0, e279, hx279_0, hl279_0, hi279_0⟩ := at_L1 HR1.out x5_1 p279 q279
                cases e279
                have HR279_0 := Aside0.mk hi279_0
                have HC279_0 := Aside0.mk hl279_0
                clear hi279_0 hl279_0
                replace p279 := eq_true p279
                replace q279 := eq_true q279
                go_wp2_with (first | (go_at_call 8; (with_reducible refine (laws_eqIntS.calls k1 _ _ (rd_L1 l0 x5_1) _ _ (rd_L1 l1 x5_1) false _ ?side1 ?side2 ?side3 ?side4 A7.out).mono ?_); (case side1 => repeat (first | exact HR278_0.out | (with_reducible refine Kd.C_alloc ?_ _) | (with_reducible refine Kd.C_drewN ?_ _) | (with_reducible refine Kd.C_drew ?_))); (case side2 => exact HC278_0.out); (case side3 => repeat (first | exact HR279_0.out | (with_reducible refine Kd.C_alloc ?_ _) | (with_reducible refine Kd.C_drewN ?_ _) | (with_reducible refine Kd.C_drew ?_))); (case side4 => exact HC279_0.out); rintro e w' ⟨rfl, ⟨nd, rfl⟩⟩; (try first | exact ⟨rfl, _, World.drewN_drewN _ _ _⟩ | exact ⟨rfl, _, Eq.trans (World.drewN_drewN _ _ _) (congrArg (World.drewN _) (Nat.add_assoc _ _ _))⟩)))
                repeat (go_quiet (first | (go_at_call 8; (with_reducible refine (laws_eqIntS.calls k1 _ _ (rd_L1 l0 x5_1) _ _ (rd_L1 l1 x5_1) false _ ?side1 ?side2 ?side3 ?side4 A7.out).mono ?_); (case side1 => repeat (first | exact HR278_0.out | (with_reducible refine Kd.C_alloc ?_ _) | (with_reducible refine Kd.C_drewN ?_ _) | (with_reducible refine Kd.C_drew ?_))); (case side2 => exact HC278_0.out); (case side3 => repeat (first | exact HR279_0.out | (with_reducible refine Kd.C_alloc ?_ _) | (with_reducible refine Kd.C_drewN ?_ _) | (with_reducible refine Kd.C_drew ?_))); (case side4 => exact HC279_0.out); rintro e w' ⟨rfl, ⟨nd, rfl⟩⟩; (try first | exact ⟨rfl, _, World.drewN_drewN _ _ _⟩ | exact ⟨rfl, _, Eq.trans (World.drewN_drewN _ _ _) (congrArg (World.drewN _) (Nat.add_assoc _ _ _))⟩))); try go_wp2_with (first | (go_at_call 8; (with_reducible refine (laws_eqIntS.calls k1 _ _ (rd_L1 l0 x5_1) _ _ (rd_L1 l1 x5_1) false _ ?side1 ?side2 ?side3 ?side4 A7.out).mono ?_); (case side1 => repeat (first | exact HR278_0.out | (with_reducible refine Kd.C_alloc ?_ _) | (with_reducible refine Kd.C_drewN ?_ _) | (with_reducible refine Kd.C_drew ?_))); (case side2 => exact HC278_0.out); (case side3 => repeat (first | exact HR279_0.out | (with_reducible refine Kd.C_alloc ?_ _) | (with_reducible refine Kd.C_drewN ?_ _) | (with_reducible refine Kd.C_drew ?_))); (case side4 => exact HC279_0.out); rintro e w' ⟨rfl, ⟨nd, rfl⟩⟩; (try first | exact ⟨rfl, _, World.drewN_drewN _ _ _⟩ | exact ⟨rfl, _, Eq.trans (World.drewN_drewN _ _ _) (congrArg (World.drewN _) (Nat.add_assoc _ _ _))⟩))))
                go_ret
                exact ⟨by first | rfl | (simp; done) | (simp [*]; done), by repeat (first | exact Drawn0.refl _ | apply Drawn0.step)⟩
            · rw [if_neg c6] at H
              exact absurd H (by simp)
          · rw [if_neg c5] at H
            exact absurd H (by simp)
        · rw [if_neg c4] at H
          have c4b0 : decide (x5_1 < (l0.length : Int)) = false := decide_eq_false c4
          clear c4
          obtain rfl := Option.some.inj H
          go_wp2
          repeat (go_quiet (fail); try go_wp2)
          go_ret
          exact ⟨by first | rfl | (simp; done) | (simp [*]; done), by repeat (first | exact Drawn0.refl _ | apply Drawn0.step)⟩
  · rw [if_neg c3] at H
    have c3b0 : ((l0.length : Int) == (l1.length : Int)) = false := beq_eq_false_iff_ne.mpr c3
    have c3b1 : ((l0.length : Int) != (l1.length : Int)) = true := bne_iff_ne.mpr c3
    have c3b2 : (l0.length == l1.length) = false := by first | simpa using c3 | (simp at c3 ⊢; omega)
    obtain rfl := Option.some.inj H
    go_enter Try.func16, Try.ntmps16
    go_wp2
    repeat (go_quiet (fail); try go_wp2)
    go_ret
    exact ⟨by first | rfl | (simp; done) | (simp [*]; done), by repeat (first | exact Drawn0.refl _ | apply Drawn0.step)⟩

/-! ### laws_markIntSS: function 17 -/
theorem R_lt_of {α : Type} {d : Kd α} {e base : Nat} {ok : Nat → Prop} {W w1 : World} {v : Value} {xs : List α} (h : d.R e W base ok v xs) (_hb : Below W.heap.size W w1) : ∀ k, v.ownBlock = some k → k < W.heap.size := Kd.R_lt h
theorem blk_lt_of {W w1 : World} {g : Nat} {o : Obj} (h : W.heap[g]? = some o) (_hb : Below W.heap.size W w1) : g < W.heap.size := blk_lt h
theorem new_of {W wG : World} {S : Nat → Prop} {v : Value} (h : Kept wG W S) (hk : ∀ k, v.ownBlock = some k → W.heap.size ≤ k) : ∀ k, v.ownBlock = some k → wG.heap.size ≤ k := fun k e => Nat.le_trans h.1 (hk k e)
theorem S_pack {α : Type} {d : Kd α} {e base a b : Nat} {w : World} {v : Value} {xs : List α} (h : Kd.S d e w base (fun k => a ≤ k ∧ k < b) v xs) : ∃ n, n = a ∧ Kd.S d e w base (fun k => n ≤ k ∧ k < b) v xs := ⟨a, rfl, h⟩
theorem sz_of {u W w1 : World} (h : Below u.heap.size u W) (_ : Below W.heap.size W w1) : u.heap.size ≤ W.heap.size := h.size
theorem sz_k {u W w1 : World} {S : Nat → Prop} (h : Below u.heap.size u W) (_ : Kept W w1 S) : u.heap.size ≤ W.heap.size := h.size
theorem R_lt_k {α : Type} {d : Kd α} {e base : Nat} {ok S : Nat → Prop} {W w1 : World} {v : Value} {xs : List α} (h : d.R e W base ok v xs) (_hb : Kept W w1 S) : ∀ k, v.ownBlock = some k → k < W.heap.size := Kd.R_lt h
theorem S_lt_k {α : Type} {d : Kd α} {e base : Nat} {ok S : Nat → Prop} {W w1 : World} {v : Value} {xs : List α} (h : Kd.S d e W base ok v xs) (_hb : Kept W w1 S) : ∀ k, v.ownBlock = some k → k < W.heap.size := Kd.S_lt h
def markRows (k : Nat) : List (List Int) → Int → Option (Int × List (List Int))
  | [], m => some (m, [])
  | r :: rs, m => (laws_markIntS.f k r m).bind fun p => (markRows k rs p.1).bind fun q => some (q.1, p.2 :: q.2)
def laws_markIntSS.f (k : Nat) (l0 : List (List Int)) (a1 : Int) : Option (Int × List (List Int)) := markRows k l0 a1
theorem markRows_mono (k : Nat) : ∀ l m, LeO (markRows k l m) (markRows (k + 1) l m)
  | [], _ => LeO.refl _
  | r :: rs, m => LeO.bind (laws_markIntS.mono _ _ _) fun _ => LeO.bind (markRows_mono k rs _) fun _ => LeO.refl _
theorem laws_markIntSS.mono : ∀ a0 a1 k, LeO (laws_markIntSS.f k a0 a1) (laws_markIntSS.f (k + 1) a0 a1) := fun a0 a1 k => markRows_mono k a0 a1
set_option maxHeartbeats 4000000 in
set_option maxRecDepth 100000 in
theorem laws_markIntSS.calls (k : Nat) (P0_ : Nat → Prop) (v : Value) (l0 : List (List Int)) (a1 : Int) (r1 : Int) (r2 : List (List Int)) (w0 w : World) (hB : Below w0.heap.size w0 w) (ho0 : Kd.S (Kd.slice 3 (Kd.int .i64)) 22 w w0.heap.size P0_ v l0) (h : laws_markIntSS.f k l0 a1 = some (r1, r2)) :
    Calls Try.prog 17 #[v, .int .i64 a1] w fun e w' => e = .returned (.int .i64 r1) ∧ Kd.S (Kd.slice 3 (Kd.int .i64)) 22 w' w0.heap.size (fun k_ => (P0_ k_ ∨ w.heap.size ≤ k_)) v r2 ∧ Below w0.heap.size w0 w' ∧ Kept w w' (fun k_ => P0_ k_) := by
  obtain ⟨A, c, rfl⟩ := Kd.S_slice ho0
  have HS := Aside0.mk (Kd.S_mono ho0 (fun k hk => (.inl hk : P0_ k ∨ w.heap.size ≤ k)))
  have HB := Aside0.mk hB
  have HF := Aside0.mk (show ∃ q, markRows k l0 a1 = some (r1, q) ∧ r2 = [] ++ q from ⟨r2, h, rfl⟩)
  have HK := Aside0.mk (Kept.refl w (fun k_ => P0_ k_))
  have HM := Lib.hid (Kd.C_max (Kd.S_reads' ho0).2.2)
  clear hB ho0 h
  go_enter Try.func17, Try.ntmps17
  go_wp2
  go_loopg [1, 5] l0.length (fun gg v1 v5 wr => ∃ (j : Nat) (done rest : List (List Int)) (m : Int), done.length = j ∧ j + rest.length = l0.length ∧ rest.length ≤ gg ∧ v1 = .int .i64 m ∧ v5 = .int .i64 (j : Int) ∧ Aside0 (∃ q, markRows k rest m = some (r1, q) ∧ r2 = done ++ q) ∧ Aside0 (Kd.S (Kd.slice 3 (Kd.int .i64)) 22 wr w0.heap.size (fun k_ => (P0_ k_ ∨ w.heap.size ≤ k_)) (.slice A l0.length c) (done ++ rest)) ∧ Aside0 (Below w0.heap.size w0 wr) ∧ Aside0 (Kept w wr (fun k_ => P0_ k_)))
  case atStart => exact ⟨0, [], l0, a1, rfl, by omega, Nat.le_refl _, rfl, rfl, HF, HS, HB, HK⟩
  case round =>
    clear HS HB HF HK
    obtain ⟨j, done, rest, m, hj, hjl, hgg, rfl, rfl, HF, HS, HB, HK⟩ := hrel
    have HJ := Lib.hid hj
    cases rest with
    | nil =>
      have hc : decide ((j : Int) < (l0.length : Int)) = false := decide_eq_false (by simp at hjl; omega)
      have hcn : decide (j < l0.length) = false := decide_eq_false (by simp at hjl; omega)
      obtain ⟨q, hq, hr⟩ := HF.out
      simp only [markRows, Option.some.injEq, Prod.mk.injEq] at hq
      obtain ⟨rfl, rfl⟩ := hq
      have HR := Lib.hid hr
      clear hj hjl hr
      go_wp2
      go_ret
      exact ⟨rfl, by rw [HR.out]; exact HS.out, HB.out, HK.out⟩
    | cons row rest =>
      have hlt : j < l0.length := by simp at hjl; omega
      have hc : decide ((j : Int) < (l0.length : Int)) = true := decide_eq_true (by omega)
      have hcn : decide (j < l0.length) = true := decide_eq_true hlt
      obtain ⟨q, hq, hr⟩ := HF.out
      simp only [markRows] at hq
      obtain ⟨⟨m', row'⟩, hmk, hq⟩ := Option.bind_eq_some_iff.mp hq
      obtain ⟨⟨r1', q'⟩, hmr, hq⟩ := Option.bind_eq_some_iff.mp hq
      simp only [Option.some.injEq, Prod.mk.injEq] at hq
      obtain ⟨rfl, rfl⟩ := hq
      obtain ⟨g, cap, hv, _, _, _⟩ := Kd.S_form HS.out (by rw [List.length_append, List.length_cons]; omega)
      injection hv with e1 e2 e3
      clear e2
      subst e1 e3
      have hel := Kd.S_elem HS.out [] (j : Int) (by omega) (by omega)
      obtain ⟨oki, cs, hcl, hM, hcc, _, hoki, hH⟩ := hel
      obtain ⟨u, rfl, hR⟩ := hM
      have hrow : (done ++ row :: rest).getD ((j : Int)).toNat [] = row := by
        rw [show ((j : Int)).toNat = done.length from by omega]; simp
      rw [hrow] at hR
      have hcell : wr.cell? ⟨g, j, none⟩ = some u := by
        have := hcc 0 u rfl
        simpa [Kd.slice] using this
      have HR := Aside0.mk hR
      have HH := Aside0.mk hH
      have HOK := Aside0.mk hoki
      have HMK := Aside0.mk hmk
      have HMR := Aside0.mk (show ∃ q, markRows k rest m' = some (r1', q) ∧ r2 = (done ++ [row']) ++ q from ⟨q', hmr, by rw [hr]; simp⟩)
      have HLT := Lib.hid hlt
      have HJL := Lib.hid hjl
      have hwj : wrap64 ((j : Int) + 1) = ((j + 1 : Nat) : Int) := by have := HM.out; unfold wrap64; omega
      have HWJ := Lib.hid hwj
      clear hR hH hoki hmk hmr hr hcc hcl hrow hj hjl HF hwj
      go_wp2_with (first | ((with_reducible refine gate_callee (f := 9) rfl ?_); refine goesL_ (some 17) rfl rfl Try.func9 (by kernel_rfl) rfl #[u, .int .i64 m] rfl (by (try simp only [List.map_toArray, List.map_cons, List.map_nil]); first | done | rfl) ?_; (with_reducible refine (laws_markIntS.calls k oki u row m m' row' w0 _ HB.out HR.out HMK.out).mono ?_); rintro e w2 ⟨rfl, hR2, hB2, hK2⟩; refine ⟨_, rfl, ?_⟩; have HR2 := Aside0.mk hR2; have HB2 := Aside0.mk hB2; have HK2 := Aside0.mk hK2; clear hR2 hB2 hK2))
      have HS2 := Aside0.mk (Kd.H_back (Kd.H_step (Kd.H_widen HH.out) (fun k _ hn hlt => HK2.out.2 k hlt (fun h => hn (.inl h)))) (Kd.M_row HR2.out) (fun k hk => hk.elim .inl (fun h => .inr ⟨.inr (Nat.le_trans HK.out.1 h), h⟩)))
      have HK3 := Aside0.mk (Kept.then_ (S := fun k_ => P0_ k_) HK.out HK2.out (fun k e => (HOK.out k e).1))
      have hset : (done ++ row :: rest).set ((j : Int)).toNat row' = (done ++ [row']) ++ rest := by
        rw [show ((j : Int)).toNat = done.length from by have := HJ.out; omega]; simp
      rw [hset] at HS2
      clear hset
      go_roundg rest.length
      case measure => simp at hgg; omega
      case rel => exact ⟨j + 1, done ++ [row'], rest, m', by simp; exact HJ.out, by have := HJL.out; simp at this; omega, Nat.le_refl _, rfl, by rw [← HWJ.out], HMR, HS2, HB2, HK3⟩


/-! ### laws_heldIntSS: function 18 -/
def laws_heldIntSS.l0 : Nat → List (List Int) → Int → Int → Option (Int)
  | 0, _, _, _ => none
  | k + 1, x0, x1, x5 => if x5 < (x0.length : Int) then (if 0 ≤ x5 then ((laws_heldIntS.f k (rd_L1 x0 x5) x1).bind fun t282 => (if t282 < 0 then (some (-1)) else (laws_heldIntSS.l0 k x0 t282 (wrap64 (x5 + 1))))) else (none)) else (some x1)
def laws_heldIntSS.f (k : Nat) (l0 : List (List Int)) (a1 : Int) : Option (Int) := laws_heldIntSS.l0 k l0 a1 0
theorem laws_heldIntSS.mono_l : ∀ k, (∀ y0 y1 y2, LeO (laws_heldIntSS.l0 k y0 y1 y2) (laws_heldIntSS.l0 (k + 1) y0 y1 y2))
  | 0 => fun _ _ _ r h => by simp [laws_heldIntSS.l0] at h
  | k + 1 => by
    have ih0 := laws_heldIntSS.mono_l k
    · intro y0 y1 y2
      unfold laws_heldIntSS.l0
      repeat' first
      | (with_reducible exact ih0 _ _ _)
      | (with_reducible exact laws_heldIntS.mono _ _ _)
      | (with_reducible exact LeO.refl _)
      | (with_reducible exact LeO.none _)
      | (with_reducible refine LeO.ite ?_ ?_)
      | (with_reducible refine LeO.bind ?_ (fun _ => ?_))
      | exact ih0 _ _ _
      | exact laws_heldIntS.mono _ _ _
      | exact LeO.none _
      | refine LeO.ite ?_ ?_
      | refine LeO.bind ?_ (fun _ => ?_)
theorem laws_heldIntSS.mono : ∀ a0 a1 k, LeO (laws_heldIntSS.f k a0 a1) (laws_heldIntSS.f (k + 1) a0 a1) := by
  intro a0 a1 k
  have ih0 := laws_heldIntSS.mono_l k
  unfold laws_heldIntSS.f
  repeat' first
      | (with_reducible exact ih0 _ _ _)
      | (with_reducible exact laws_heldIntS.mono _ _ _)
      | (with_reducible exact LeO.refl _)
      | (with_reducible exact LeO.none _)
      | (with_reducible refine LeO.ite ?_ ?_)
      | (with_reducible refine LeO.bind ?_ (fun _ => ?_))
      | exact ih0 _ _ _
      | exact laws_heldIntS.mono _ _ _
      | exact LeO.none _
      | refine LeO.ite ?_ ?_
      | refine LeO.bind ?_ (fun _ => ?_)
set_option maxHeartbeats 8000000 in
set_option maxRecDepth 100000 in
theorem laws_heldIntSS.calls (k : Nat) (A0 : Option Addr) (c0 : Nat) (l0 : List (List Int)) (a1 : Int) (r : Int) (w : World) (hr0 : Kd.C (Kd.slice 3 (Kd.int .i64)) w A0 l0.length l0) (hc0 : l0.length ≤ c0) (h : laws_heldIntSS.f k l0 a1 = some r) :
    Calls Try.prog 18 #[.slice A0 l0.length c0, .int .i64 a1] w fun e w' => e = .returned (.int .i64 r) ∧ Drawn0 w w' := by
  have HR0 := Aside0.mk hr0
  have HC0 := Aside0.mk hc0
  clear hr0 hc0
  have H : (laws_heldIntSS.l0 k l0 a1 0) = some r := h
  clear h
  have H' := Aside0.mk H
  clear H
  go_enter Try.func18, Try.ntmps18
  go_wp2
  go_loopg [1, 5] k (fun kq v1 v5 w' => ∃ (x1_1 : Int) (x5_1 : Int), v1 = .int .i64 x1_1 ∧ v5 = .int .i64 x5_1 ∧ Aside0 (laws_heldIntSS.l0 kq l0 x1_1 x5_1 = some r) ∧ Aside0 (kq ≤ k) ∧ Drawn0 w w')
  case atStart => exact ⟨(a1), (0), (by first | rfl | (simp; done) | (simp [*]; done)), (by first | rfl | (simp; done) | (simp [*]; done)), H', ⟨Nat.le_refl _⟩, by repeat (first | exact Drawn0.refl _ | apply Drawn0.step)⟩
  case round =>
    clear H'
    try clear c1
    try clear p2
    obtain ⟨x1_1, x5_1, rfl, rfl, HA, HK1, ⟨m1, rfl⟩⟩ := hrel
    cases gk with
    | zero => exact absurd HA.out (by simp [laws_heldIntSS.l0])
    | succ k1 =>
      have H := HA.out
      clear HA
      simp only [laws_heldIntSS.l0] at H
      by_cases c3 : x5_1 < (l0.length : Int)
      · rw [if_pos c3] at H
        have c3b0 : decide (x5_1 < (l0.length : Int)) = true := decide_eq_true c3
        clear c3
        by_cases c4 : 0 ≤ x5_1
        · rw [if_pos c4] at H
          have c4b0 : decide (0 ≤ x5_1) = true := decide_eq_true c4
          clear c4
          replace H := Option.bind_eq_some_iff.mp H
          obtain ⟨t282, A50, H⟩ := H
          replace H : (if t282 < 0 then (some (-1)) else (laws_heldIntSS.l0 k1 l0 t282 (wrap64 (x5_1 + 1)))) = some r := H
          have A5 := Aside0.mk A50
          clear A50
          by_cases c6 : t282 < 0
          · rw [if_pos c6] at H
            have c6b0 : decide (t282 < 0) = true := decide_eq_true c6
            clear c6
            obtain rfl := Option.some.inj H
            have p281 : 0 ≤ (x5_1 : Int) := of_decide_eq_true (by first | (with_reducible assumption) | assumption)
            have q281 : x5_1 < (l0.length : Int) := of_decide_eq_true (by first | (with_reducible assumption) | assumption)
            obtain ⟨ad281, A281_0, c281_0, e281, hx281_0, hl281_0, hi281_0⟩ := at_L1 HR0.out x5_1 p281 q281
            cases e281
            have HR281_0 := Aside0.mk hi281_0
            have HC281_0 := Aside0.mk hl281_0
            clear hi281_0 hl281_0
            replace p281 := eq_true p281
            replace q281 := eq_true q281
            go_wp2_with (first | ((with_reducible refine gate_callee (f := 10) rfl ?_); refine goesL_ (some 17) rfl rfl Try.func10 (by kernel_rfl) rfl #[.slice A281_0 (rd_L1 l0 x5_1).length c281_0, .int .i64 x1_1] rfl (by (try simp only [List.map_toArray, List.map_cons, List.map_nil]); first | done | rfl | (simp only [List.length_drop, List.length_take]; rfl)) ?_; (with_reducible refine (laws_heldIntS.calls k1 _ _ (rd_L1 l0 x5_1) x1_1 t282 _ ?side1 ?side2 A5.out).mono ?_); (case side1 => repeat (first | exact HR281_0.out | (with_reducible refine Kd.C_alloc ?_ _) | (with_reducible refine Kd.C_drewN ?_ _) | (with_reducible refine Kd.C_drew ?_))); (case side2 => exact HC281_0.out); rintro e w' ⟨rfl, ⟨nd, rfl⟩⟩; refine ⟨_, rfl, ?_⟩))
            go_ret
            exact ⟨by first | rfl | (simp; done) | (simp [*]; done), by repeat (first | exact Drawn0.refl _ | apply Drawn0.step)⟩
          · rw [if_neg c6] at H
            have c6b0 : decide (t282 < 0) = false := decide_eq_false c6
            clear c6
            have H' := Aside0.mk H
            clear H
            have p281 : 0 ≤ (x5_1 : Int) := of_decide_eq_true (by first | (with_reducible assumption) | assumption)
            have q281 : x5_1 < (l0.length : Int) := of_decide_eq_true (by first | (with_reducible assumption) | assumption)
            obtain ⟨ad281, A281_0, c281_0, e281, hx281_0, hl281_0, hi281_0⟩ := at_L1 HR0.out x5_1 p281 q281
            cases e281
            have HR281_0 := Aside0.mk hi281_0
            have HC281_0 := Aside0.mk hl281_0
            clear hi281_0 hl281_0
            replace p281 := eq_true p281
            replace q281 := eq_true q281
            go_wp2_with (first | ((with_reducible refine gate_callee (f := 10) rfl ?_); refine goesL_ (some 17) rfl rfl Try.func10 (by kernel_rfl) rfl #[.slice A281_0 (rd_L1 l0 x5_1).length c281_0, .int .i64 x1_1] rfl (by (try simp only [List.map_toArray, List.map_cons, List.map_nil]); first | done | rfl | (simp only [List.length_drop, List.length_take]; rfl)) ?_; (with_reducible refine (laws_heldIntS.calls k1 _ _ (rd_L1 l0 x5_1) x1_1 t282 _ ?side1 ?side2 A5.out).mono ?_); (case side1 => repeat (first | exact HR281_0.out | (with_reducible refine Kd.C_alloc ?_ _) | (with_reducible refine Kd.C_drewN ?_ _) | (with_reducible refine Kd.C_drew ?_))); (case side2 => exact HC281_0.out); rintro e w' ⟨rfl, ⟨nd, rfl⟩⟩; refine ⟨_, rfl, ?_⟩))
            go_roundg k1
            case measure => have := HK1.out; omega
            case rel => exact ⟨(t282), (wrap64 (x5_1 + 1)), (by first | rfl | (simp; done) | (simp [*]; done)), (by first | rfl | (simp; done) | (simp [*]; done)), H', ⟨by have := HK1.out; omega⟩, by repeat (first | exact Drawn0.refl _ | apply Drawn0.step)⟩
        · rw [if_neg c4] at H
          exact absurd H (by simp)
      · rw [if_neg c3] at H
        have c3b0 : decide (x5_1 < (l0.length : Int)) = false := decide_eq_false c3
        clear c3
        obtain rfl := Option.some.inj H
        go_wp2
        go_ret
        exact ⟨by first | rfl | (simp; done) | (simp [*]; done), by repeat (first | exact Drawn0.refl _ | apply Drawn0.step)⟩

/-! ### laws_FnExactLeastLevels: function 5 -/
def laws_FnExactLeastLevels.f (k : Nat) (l0 : List Int) : Option (Bool) := if (l0.length : Int) > 1048576 then (some true) else ((laws_toIntS.f k l0).bind fun t283 => ((spec_LeastLevels.f k t283).bind fun bt286 => ((laws_toIntS.f k l0).bind fun t290 => ((impl_LeastLevels.f k t290).bind fun bt293 => ((laws_eqIntSS.f k bt293.1 bt286.1).bind fun t297 => (if t297 = true then (if (bt293.2 != bt286.2) = true then (none) else ((laws_toIntS.f k l0).bind fun t298 => ((laws_eqIntS.f k t290 t298).bind fun t301 => (if t301 = true then ((laws_markIntS.f k t290 1).bind fun bt302 => (if bt302.1 < 0 then (none) else ((laws_eqIntSS.f k bt293.1 bt286.1).bind fun t304 => (if t304 = true then ((laws_markIntSS.f k bt293.1 1).bind fun bt305 => ((laws_heldIntSS.f k bt305.2 1).bind fun t306 => (if t306 < 0 then (none) else (if t306 = bt305.1 then ((laws_toIntS.f k l0).bind fun t307 => ((impl_LeastLevels.f k t307).bind fun bt310 => ((laws_eqIntSS.f k bt310.1 bt286.1).bind fun t314 => (if t314 = true then (if (bt310.2 != bt286.2) = true then (none) else ((laws_heldIntSS.f k bt305.2 1).bind fun t315 => (if t315 < 0 then (none) else (if t315 = bt305.1 then (some true) else (none))))) else (none))))) else (none))))) else (none))))) else (none))))) else (none)))))))
theorem laws_FnExactLeastLevels.mono : ∀ a0 k, LeO (laws_FnExactLeastLevels.f k a0) (laws_FnExactLeastLevels.f (k + 1) a0) := by
  intro a0 k
  unfold laws_FnExactLeastLevels.f
  repeat' first
      | (with_reducible exact impl_LeastLevels.mono _ _)
      | (with_reducible exact laws_eqIntS.mono _ _ _)
      | (with_reducible exact laws_eqIntSS.mono _ _ _)
      | (with_reducible exact laws_heldIntSS.mono _ _ _)
      | (with_reducible exact laws_markIntS.mono _ _ _)
      | (with_reducible exact laws_markIntSS.mono _ _ _)
      | (with_reducible exact laws_toIntS.mono _ _)
      | (with_reducible exact spec_LeastLevels.mono _ _)
      | (with_reducible exact LeO.refl _)
      | (with_reducible exact LeO.none _)
      | (with_reducible refine LeO.ite ?_ ?_)
      | (with_reducible refine LeO.bind ?_ (fun _ => ?_))
      | exact impl_LeastLevels.mono _ _
      | exact laws_eqIntS.mono _ _ _
      | exact laws_eqIntSS.mono _ _ _
      | exact laws_heldIntSS.mono _ _ _
      | exact laws_markIntS.mono _ _ _
      | exact laws_markIntSS.mono _ _ _
      | exact laws_toIntS.mono _ _
      | exact spec_LeastLevels.mono _ _
      | exact LeO.none _
      | refine LeO.ite ?_ ?_
      | refine LeO.bind ?_ (fun _ => ?_)
set_option maxHeartbeats 8000000 in
set_option maxRecDepth 100000 in
theorem laws_FnExactLeastLevels.calls (k : Nat) (A0 : Option Addr) (c0 : Nat) (l0 : List Int) (r : Bool) (w : World) (hr0 : Kd.C (Kd.int .i64) w A0 l0.length l0) (hc0 : l0.length ≤ c0) (h : laws_FnExactLeastLevels.f k l0 = some r) :
    Calls Try.prog 5 #[.slice A0 l0.length c0] w fun e w' => e = .returned (.bool r) ∧ Below w.heap.size w w' := by
  have HR0 := Aside0.mk hr0
  have HC0 := Aside0.mk hc0
  clear hr0 hc0
  have HB := Aside0.mk (Below.refl w.heap.size w)
  have H : (if (l0.length : Int) > 1048576 then (some true) else ((laws_toIntS.f k l0).bind fun t283 => ((spec_LeastLevels.f k t283).bind fun bt286 => ((laws_toIntS.f k l0).bind fun t290 => ((impl_LeastLevels.f k t290).bind fun bt293 => ((laws_eqIntSS.f k bt293.1 bt286.1).bind fun t297 => (if t297 = true then (if (bt293.2 != bt286.2) = true then (none) else ((laws_toIntS.f k l0).bind fun t298 => ((laws_eqIntS.f k t290 t298).bind fun t301 => (if t301 = true then ((laws_markIntS.f k t290 1).bind fun bt302 => (if bt302.1 < 0 then (none) else ((laws_eqIntSS.f k bt293.1 bt286.1).bind fun t304 => (if t304 = true then ((laws_markIntSS.f k bt293.1 1).bind fun bt305 => ((laws_heldIntSS.f k bt305.2 1).bind fun t306 => (if t306 < 0 then (none) else (if t306 = bt305.1 then ((laws_toIntS.f k l0).bind fun t307 => ((impl_LeastLevels.f k t307).bind fun bt310 => ((laws_eqIntSS.f k bt310.1 bt286.1).bind fun t314 => (if t314 = true then (if (bt310.2 != bt286.2) = true then (none) else ((laws_heldIntSS.f k bt305.2 1).bind fun t315 => (if t315 < 0 then (none) else (if t315 = bt305.1 then (some true) else (none))))) else (none))))) else (none))))) else (none))))) else (none))))) else (none)))))))) = some r := h
  clear h
  by_cases c2 : (l0.length : Int) > 1048576
  · rw [if_pos c2] at H
    have c2b0 : decide (1048576 < (l0.length : Int)) = true := decide_eq_true c2
    have c2b1 : decide (1048576 < l0.length) = true := decide_eq_true (by omega)
    clear c2
    obtain rfl := Option.some.inj H
    go_enter Try.func5, Try.ntmps5
    go_wp2
    go_ret
    exact ⟨by first | rfl | (simp [errW_none, errW_some] <;> rfl) | (simp [*, errW_none, errW_some] <;> rfl), by repeat (first | (with_reducible first | exact HB.out | apply below_alloc | apply pw_below_drewN | apply below_drew1) | exact HB.out)⟩
  · rw [if_neg c2] at H
    have c2b0 : decide (1048576 < (l0.length : Int)) = false := decide_eq_false c2
    have c2b1 : decide (1048576 < l0.length) = false := decide_eq_false (by omega)
    clear c2
    replace H := Option.bind_eq_some_iff.mp H
    obtain ⟨t283, A30, H⟩ := H
    replace H : ((spec_LeastLevels.f k t283).bind fun bt286 => ((laws_toIntS.f k l0).bind fun t290 => ((impl_LeastLevels.f k t290).bind fun bt293 => ((laws_eqIntSS.f k bt293.1 bt286.1).bind fun t297 => (if t297 = true then (if (bt293.2 != bt286.2) = true then (none) else ((laws_toIntS.f k l0).bind fun t298 => ((laws_eqIntS.f k t290 t298).bind fun t301 => (if t301 = true then ((laws_markIntS.f k t290 1).bind fun bt302 => (if bt302.1 < 0 then (none) else ((laws_eqIntSS.f k bt293.1 bt286.1).bind fun t304 => (if t304 = true then ((laws_markIntSS.f k bt293.1 1).bind fun bt305 => ((laws_heldIntSS.f k bt305.2 1).bind fun t306 => (if t306 < 0 then (none) else (if t306 = bt305.1 then ((laws_toIntS.f k l0).bind fun t307 => ((impl_LeastLevels.f k t307).bind fun bt310 => ((laws_eqIntSS.f k bt310.1 bt286.1).bind fun t314 => (if t314 = true then (if (bt310.2 != bt286.2) = true then (none) else ((laws_heldIntSS.f k bt305.2 1).bind fun t315 => (if t315 < 0 then (none) else (if t315 = bt305.1 then (some true) else (none))))) else (none))))) else (none))))) else (none))))) else (none))))) else (none)))))) = some r := H
    have A3 := Aside0.mk A30
    clear A30
    replace H := Option.bind_eq_some_iff.mp H
    obtain ⟨⟨t286, t287⟩, A40, H⟩ := H
    replace H : ((laws_toIntS.f k l0).bind fun t290 => ((impl_LeastLevels.f k t290).bind fun bt293 => ((laws_eqIntSS.f k bt293.1 t286).bind fun t297 => (if t297 = true then (if (bt293.2 != t287) = true then (none) else ((laws_toIntS.f k l0).bind fun t298 => ((laws_eqIntS.f k t290 t298).bind fun t301 => (if t301 = true then ((laws_markIntS.f k t290 1).bind fun bt302 => (if bt302.1 < 0 then (none) else ((laws_eqIntSS.f k bt293.1 t286).bind fun t304 => (if t304 = true then ((laws_markIntSS.f k bt293.1 1).bind fun bt305 => ((laws_heldIntSS.f k bt305.2 1).bind fun t306 => (if t306 < 0 then (none) else (if t306 = bt305.1 then ((laws_toIntS.f k l0).bind fun t307 => ((impl_LeastLevels.f k t307).bind fun bt310 => ((laws_eqIntSS.f k bt310.1 t286).bind fun t314 => (if t314 = true then (if (bt310.2 != t287) = true then (none) else ((laws_heldIntSS.f k bt305.2 1).bind fun t315 => (if t315 < 0 then (none) else (if t315 = bt305.1 then (some true) else (none))))) else (none))))) else (none))))) else (none))))) else (none))))) else (none))))) = some r := H
    have A4 := Aside0.mk A40
    clear A40
    replace H := Option.bind_eq_some_iff.mp H
    obtain ⟨t290, A50, H⟩ := H
    replace H : ((impl_LeastLevels.f k t290).bind fun bt293 => ((laws_eqIntSS.f k bt293.1 t286).bind fun t297 => (if t297 = true then (if (bt293.2 != t287) = true then (none) else ((laws_toIntS.f k l0).bind fun t298 => ((laws_eqIntS.f k t290 t298).bind fun t301 => (if t301 = true then ((laws_markIntS.f k t290 1).bind fun bt302 => (if bt302.1 < 0 then (none) else ((laws_eqIntSS.f k bt293.1 t286).bind fun t304 => (if t304 = true then ((laws_markIntSS.f k bt293.1 1).bind fun bt305 => ((laws_heldIntSS.f k bt305.2 1).bind fun t306 => (if t306 < 0 then (none) else (if t306 = bt305.1 then ((laws_toIntS.f k l0).bind fun t307 => ((impl_LeastLevels.f k t307).bind fun bt310 => ((laws_eqIntSS.f k bt310.1 t286).bind fun t314 => (if t314 = true then (if (bt310.2 != t287) = true then (none) else ((laws_heldIntSS.f k bt305.2 1).bind fun t315 => (if t315 < 0 then (none) else (if t315 = bt305.1 then (some true) else (none))))) else (none))))) else (none))))) else (none))))) else (none))))) else (none)))) = some r := H
    have A5 := Aside0.mk A50
    clear A50
    replace H := Option.bind_eq_some_iff.mp H
    obtain ⟨⟨t293, t294⟩, A60, H⟩ := H
    replace H : ((laws_eqIntSS.f k t293 t286).bind fun t297 => (if t297 = true then (if (t294 != t287) = true then (none) else ((laws_toIntS.f k l0).bind fun t298 => ((laws_eqIntS.f k t290 t298).bind fun t301 => (if t301 = true then ((laws_markIntS.f k t290 1).bind fun bt302 => (if bt302.1 < 0 then (none) else ((laws_eqIntSS.f k t293 t286).bind fun t304 => (if t304 = true then ((laws_markIntSS.f k t293 1).bind fun bt305 => ((laws_heldIntSS.f k bt305.2 1).bind fun t306 => (if t306 < 0 then (none) else (if t306 = bt305.1 then ((laws_toIntS.f k l0).bind fun t307 => ((impl_LeastLevels.f k t307).bind fun bt310 => ((laws_eqIntSS.f k bt310.1 t286).bind fun t314 => (if t314 = true then (if (bt310.2 != t287) = true then (none) else ((laws_heldIntSS.f k bt305.2 1).bind fun t315 => (if t315 < 0 then (none) else (if t315 = bt305.1 then (some true) else (none))))) else (none))))) else (none))))) else (none))))) else (none))))) else (none))) = some r := H
    have A6 := Aside0.mk A60
    clear A60
    replace H := Option.bind_eq_some_iff.mp H
    obtain ⟨t297, A70, H⟩ := H
    replace H : (if t297 = true then (if (t294 != t287) = true then (none) else ((laws_toIntS.f k l0).bind fun t298 => ((laws_eqIntS.f k t290 t298).bind fun t301 => (if t301 = true then ((laws_markIntS.f k t290 1).bind fun bt302 => (if bt302.1 < 0 then (none) else ((laws_eqIntSS.f k t293 t286).bind fun t304 => (if t304 = true then ((laws_markIntSS.f k t293 1).bind fun bt305 => ((laws_heldIntSS.f k bt305.2 1).bind fun t306 => (if t306 < 0 then (none) else (if t306 = bt305.1 then ((laws_toIntS.f k l0).bind fun t307 => ((impl_LeastLevels.f k t307).bind fun bt310 => ((laws_eqIntSS.f k bt310.1 t286).bind fun t314 => (if t314 = true then (if (bt310.2 != t287) = true then (none) else ((laws_heldIntSS.f k bt305.2 1).bind fun t315 => (if t315 < 0 then (none) else (if t315 = bt305.1 then (some true) else (none))))) else (none))))) else (none))))) else (none))))) else (none))))) else (none)) = some r := H
    have A7 := Aside0.mk A70
    clear A70
    by_cases c8 : t297 = true
    · subst c8
      have H1 : (if (t294 != t287) = true then (none) else ((laws_toIntS.f k l0).bind fun t298 => ((laws_eqIntS.f k t290 t298).bind fun t301 => (if t301 = true then ((laws_markIntS.f k t290 1).bind fun bt302 => (if bt302.1 < 0 then (none) else ((laws_eqIntSS.f k t293 t286).bind fun t304 => (if t304 = true then ((laws_markIntSS.f k t293 1).bind fun bt305 => ((laws_heldIntSS.f k bt305.2 1).bind fun t306 => (if t306 < 0 then (none) else (if t306 = bt305.1 then ((laws_toIntS.f k l0).bind fun t307 => ((impl_LeastLevels.f k t307).bind fun bt310 => ((laws_eqIntSS.f k bt310.1 t286).bind fun t314 => (if t314 = true then (if (bt310.2 != t287) = true then (none) else ((laws_heldIntSS.f k bt305.2 1).bind fun t315 => (if t315 < 0 then (none) else (if t315 = bt305.1 then (some true) else (none))))) else (none))))) else (none))))) else (none))))) else (none))))) = some r := by rw [if_pos rfl] at H; exact H
      clear H
      have H := H1
      clear H1
      by_cases c9 : (t294 != t287) = true
      · rw [if_pos c9] at H
        exact absurd H (by simp)
      · rw [if_neg c9] at H
        have c9b0 : (t294 != t287) = false := by simpa using c9
        (try (have c9b1 : decide (t294 = t287) = true := by simpa using c9))
        (try (have c9b2 : (t294 == t287) = true := by simpa using c9))
        clear c9
        replace H := Option.bind_eq_some_iff.mp H
        obtain ⟨t298, A100, H⟩ := H
        replace H : ((laws_eqIntS.f k t290 t298).bind fun t301 => (if t301 = true then ((laws_markIntS.f k t290 1).bind fun bt302 => (if bt302.1 < 0 then (none) else ((laws_eqIntSS.f k t293 t286).bind fun t304 => (if t304 = true then ((laws_markIntSS.f k t293 1).bind fun bt305 => ((laws_heldIntSS.f k bt305.2 1).bind fun t306 => (if t306 < 0 then (none) else (if t306 = bt305.1 then ((laws_toIntS.f k l0).bind fun t307 => ((impl_LeastLevels.f k t307).bind fun bt310 => ((laws_eqIntSS.f k bt310.1 t286).bind fun t314 => (if t314 = true then (if (bt310.2 != t287) = true then (none) else ((laws_heldIntSS.f k bt305.2 1).bind fun t315 => (if t315 < 0 then (none) else (if t315 = bt305.1 then (some true) else (none))))) else (none))))) else (none))))) else (none))))) else (none))) = some r := H
        have A10 := Aside0.mk A100
        clear A100
        replace H := Option.bind_eq_some_iff.mp H
        obtain ⟨t301, A110, H⟩ := H
        replace H : (if t301 = true then ((laws_markIntS.f k t290 1).bind fun bt302 => (if bt302.1 < 0 then (none) else ((laws_eqIntSS.f k t293 t286).bind fun t304 => (if t304 = true then ((laws_markIntSS.f k t293 1).bind fun bt305 => ((laws_heldIntSS.f k bt305.2 1).bind fun t306 => (if t306 < 0 then (none) else (if t306 = bt305.1 then ((laws_toIntS.f k l0).bind fun t307 => ((impl_LeastLevels.f k t307).bind fun bt310 => ((laws_eqIntSS.f k bt310.1 t286).bind fun t314 => (if t314 = true then (if (bt310.2 != t287) = true then (none) else ((laws_heldIntSS.f k bt305.2 1).bind fun t315 => (if t315 < 0 then (none) else (if t315 = bt305.1 then (some true) else (none))))) else (none))))) else (none))))) else (none))))) else (none)) = some r := H
        have A11 := Aside0.mk A110
        clear A110
        by_cases c12 : t301 = true
        · subst c12
          have H1 : ((laws_markIntS.f k t290 1).bind fun bt302 => (if bt302.1 < 0 then (none) else ((laws_eqIntSS.f k t293 t286).bind fun t304 => (if t304 = true then ((laws_markIntSS.f k t293 1).bind fun bt305 => ((laws_heldIntSS.f k bt305.2 1).bind fun t306 => (if t306 < 0 then (none) else (if t306 = bt305.1 then ((laws_toIntS.f k l0).bind fun t307 => ((impl_LeastLevels.f k t307).bind fun bt310 => ((laws_eqIntSS.f k bt310.1 t286).bind fun t314 => (if t314 = true then (if (bt310.2 != t287) = true then (none) else ((laws_heldIntSS.f k bt305.2 1).bind fun t315 => (if t315 < 0 then (none) else (if t315 = bt305.1 then (some true) else (none))))) else (none))))) else (none))))) else (none))))) = some r := by rw [if_pos rfl] at H; exact H
          clear H
          have H := H1
          clear H1
          replace H := Option.bind_eq_some_iff.mp H
          obtain ⟨⟨t302, t303⟩, A130, H⟩ := H
          replace H : (if t302 < 0 then (none) else ((laws_eqIntSS.f k t293 t286).bind fun t304 => (if t304 = true then ((laws_markIntSS.f k t293 1).bind fun bt305 => ((laws_heldIntSS.f k bt305.2 1).bind fun t306 => (if t306 < 0 then (none) else (if t306 = bt305.1 then ((laws_toIntS.f k l0).bind fun t307 => ((impl_LeastLevels.f k t307).bind fun bt310 => ((laws_eqIntSS.f k bt310.1 t286).bind fun t314 => (if t314 = true then (if (bt310.2 != t287) = true then (none) else ((laws_heldIntSS.f k bt305.2 1).bind fun t315 => (if t315 < 0 then (none) else (if t315 = bt305.1 then (some true) else (none))))) else (none))))) else (none))))) else (none)))) = some r := H
          have A13 := Aside0.mk A130
          clear A130
          by_cases c14 : t302 < 0
          · rw [if_pos c14] at H
            exact absurd H (by simp)
          · rw [if_neg c14] at H
            have c14b0 : decide (t302 < 0) = false := decide_eq_false c14
            clear c14
            replace H := Option.bind_eq_some_iff.mp H
            obtain ⟨t304, A150, H⟩ := H
            replace H : (if t304 = true then ((laws_markIntSS.f k t293 1).bind fun bt305 => ((laws_heldIntSS.f k bt305.2 1).bind fun t306 => (if t306 < 0 then (none) else (if t306 = bt305.1 then ((laws_toIntS.f k l0).bind fun t307 => ((impl_LeastLevels.f k t307).bind fun bt310 => ((laws_eqIntSS.f k bt310.1 t286).bind fun t314 => (if t314 = true then (if (bt310.2 != t287) = true then (none) else ((laws_heldIntSS.f k bt305.2 1).bind fun t315 => (if t315 < 0 then (none) else (if t315 = bt305.1 then (some true) else (none))))) else (none))))) else (none))))) else (none)) = some r := H
            have A15 := Aside0.mk A150
            clear A150
            by_cases c16 : t304 = true
            · subst c16
              have H1 : ((laws_markIntSS.f k t293 1).bind fun bt305 => ((laws_heldIntSS.f k bt305.2 1).bind fun t306 => (if t306 < 0 then (none) else (if t306 = bt305.1 then ((laws_toIntS.f k l0).bind fun t307 => ((impl_LeastLevels.f k t307).bind fun bt310 => ((laws_eqIntSS.f k bt310.1 t286).bind fun t314 => (if t314 = true then (if (bt310.2 != t287) = true then (none) else ((laws_heldIntSS.f k bt305.2 1).bind fun t315 => (if t315 < 0 then (none) else (if t315 = bt305.1 then (some true) else (none))))) else (none))))) else (none))))) = some r := by rw [if_pos rfl] at H; exact H
              clear H
              have H := H1
              clear H1
              replace H := Option.bind_eq_some_iff.mp H
              obtain ⟨⟨t305, u305⟩, A170, H⟩ := H
              replace H : ((laws_heldIntSS.f k u305 1).bind fun t306 => (if t306 < 0 then (none) else (if t306 = t305 then ((laws_toIntS.f k l0).bind fun t307 => ((impl_LeastLevels.f k t307).bind fun bt310 => ((laws_eqIntSS.f k bt310.1 t286).bind fun t314 => (if t314 = true then (if (bt310.2 != t287) = true then (none) else ((laws_heldIntSS.f k u305 1).bind fun t315 => (if t315 < 0 then (none) else (if t315 = t305 then (some true) else (none))))) else (none))))) else (none)))) = some r := H
              have A17 := Aside0.mk A170
              clear A170
              replace H := Option.bind_eq_some_iff.mp H
              obtain ⟨t306, A180, H⟩ := H
              replace H : (if t306 < 0 then (none) else (if t306 = t305 then ((laws_toIntS.f k l0).bind fun t307 => ((impl_LeastLevels.f k t307).bind fun bt310 => ((laws_eqIntSS.f k bt310.1 t286).bind fun t314 => (if t314 = true then (if (bt310.2 != t287) = true then (none) else ((laws_heldIntSS.f k u305 1).bind fun t315 => (if t315 < 0 then (none) else (if t315 = t305 then (some true) else (none))))) else (none))))) else (none))) = some r := H
              have A18 := Aside0.mk A180
              clear A180
              by_cases c19 : t306 < 0
              · rw [if_pos c19] at H
                exact absurd H (by simp)
              · rw [if_neg c19] at H
                have c19b0 : decide (t306 < 0) = false := decide_eq_false c19
                clear c19
                by_cases c20 : t306 = t305
                · rw [if_pos c20] at H
                  have c20b0 : (t306 == t305) = true := beq_iff_eq.mpr c20
                  have c20b1 : (t306 != t305) = false := bne_eq_false_iff_eq.mpr c20
                  clear c20
                  replace H := Option.bind_eq_some_iff.mp H
                  obtain ⟨t307, A210, H⟩ := H
                  replace H : ((impl_LeastLevels.f k t307).bind fun bt310 => ((laws_eqIntSS.f k bt310.1 t286).bind fun t314 => (if t314 = true then (if (bt310.2 != t287) = true then (none) else ((laws_heldIntSS.f k u305 1).bind fun t315 => (if t315 < 0 then (none) else (if t315 = t305 then (some true) else (none))))) else (none)))) = some r := H
                  have A21 := Aside0.mk A210
                  clear A210
                  replace H := Option.bind_eq_some_iff.mp H
                  obtain ⟨⟨t310, t311⟩, A220, H⟩ := H
                  replace H : ((laws_eqIntSS.f k t310 t286).bind fun t314 => (if t314 = true then (if (t311 != t287) = true then (none) else ((laws_heldIntSS.f k u305 1).bind fun t315 => (if t315 < 0 then (none) else (if t315 = t305 then (some true) else (none))))) else (none))) = some r := H
                  have A22 := Aside0.mk A220
                  clear A220
                  replace H := Option.bind_eq_some_iff.mp H
                  obtain ⟨t314, A230, H⟩ := H
                  replace H : (if t314 = true then (if (t311 != t287) = true then (none) else ((laws_heldIntSS.f k u305 1).bind fun t315 => (if t315 < 0 then (none) else (if t315 = t305 then (some true) else (none))))) else (none)) = some r := H
                  have A23 := Aside0.mk A230
                  clear A230
                  by_cases c24 : t314 = true
                  · subst c24
                    have H1 : (if (t311 != t287) = true then (none) else ((laws_heldIntSS.f k u305 1).bind fun t315 => (if t315 < 0 then (none) else (if t315 = t305 then (some true) else (none))))) = some r := by rw [if_pos rfl] at H; exact H
                    clear H
                    have H := H1
                    clear H1
                    by_cases c25 : (t311 != t287) = true
                    · rw [if_pos c25] at H
                      exact absurd H (by simp)
                    · rw [if_neg c25] at H
                      have c25b0 : (t311 != t287) = false := by simpa using c25
                      (try (have c25b1 : decide (t311 = t287) = true := by simpa using c25))
                      (try (have c25b2 : (t311 == t287) = true := by simpa using c25))
                      clear c25
                      replace H := Option.bind_eq_some_iff.mp H
                      obtain ⟨t315, A260, H⟩ := H
                      replace H : (if t315 < 0 then (none) else (if t315 = t305 then (some true) else (none))) = some r := H
                      have A26 := Aside0.mk A260
                      clear A260
                      by_cases c27 : t315 < 0
                      · rw [if_pos c27] at H
                        exact absurd H (by simp)
                      · rw [if_neg c27] at H
                        have c27b0 : decide (t315 < 0) = false := decide_eq_false c27
                        clear c27
                        by_cases c28 : t315 = t305
                        · rw [if_pos c28] at H
                          have c28b0 : (t315 == t305) = true := beq_iff_eq.mpr c28
                          have c28b1 : (t315 != t305) = false := bne_eq_false_iff_eq.mpr c28
                          clear c28
                          obtain rfl := Option.some.inj H
                          go_enter Try.func5, Try.ntmps5
                          go_wp2_with (first | ((with_reducible refine gate_callee (f := 12) rfl ?_); refine goesL_ (some 18) rfl rfl Try.func12 (by kernel_rfl) rfl #[.slice A0 l0.length c0] rfl (by (try simp only [List.map_toArray, List.map_cons, List.map_nil]); first | done | rfl | (simp only [List.length_drop, List.length_take]; rfl)) ?_; (with_reducible refine (laws_toIntS.calls k _ _ l0 t283 _ ?side1 ?side2 A3.out).mono ?_); (case side1 => repeat (first | exact HR0.out | (with_reducible refine Kd.C_alloc ?_ _) | (with_reducible refine Kd.C_drewN ?_ _) | (with_reducible refine Kd.C_drew ?_))); (case side2 => exact HC0.out); rintro e w29 ⟨v284, rfl, ho0, hb⟩; refine ⟨_, rfl, ?_⟩; have n0_ := Aside0.mk (Kd.R_lower ho0 (below_size (by repeat (first | (with_reducible first | exact HB.out | apply below_alloc | apply pw_below_drewN | apply below_drew1) | exact HB.out)))); have n1_ := Aside0.mk (below_step (by repeat (first | (with_reducible first | exact HB.out | apply below_alloc | apply pw_below_drewN | apply below_drew1) | exact HB.out)) hb); clear HB; have HO285 := n0_; have HB := n1_; clear n0_ n1_; (try clear hb); (try clear hb2); (try clear hk); (try clear hi); (try clear ho0); obtain ⟨Ao30, co30, eo30⟩ := Kd.R_slice HO285.out; subst eo30) | ((with_reducible refine gate_callee (f := 14) rfl ?_); refine goesL_ (some 19) rfl rfl Try.func14 (by kernel_rfl) rfl #[.slice Ao30 t283.length co30] rfl (by (try simp only [List.map_toArray, List.map_cons, List.map_nil]); first | done | rfl | (simp only [List.length_drop, List.length_take]; rfl)) ?_; (with_reducible refine (spec_LeastLevels.calls k _ _ t283 t286 t287 _ ?side1 ?side2 A4.out).mono ?_); (case side1 => repeat (first | exact (Kd.R_reads' HO285.out).2.2 | (with_reducible refine Kd.C_alloc ?_ _) | (with_reducible refine Kd.C_drewN ?_ _) | (with_reducible refine Kd.C_drew ?_))); (case side2 => exact (Kd.R_reads' HO285.out).2.1); rintro e w31 ⟨v288, rfl, ho0, hb⟩; refine ⟨_, rfl, ?_⟩; have n0_ := Aside0.mk (Kd.R_below (by (with_reducible repeat (first | apply Kd.R_alloc | apply Kd.R_drewN | apply Kd.R_drew)); exact HO285.out) hb); have n1_ := Aside0.mk (Kd.S_lower (Kd.S_new' ho0 (Kd.R_lt (by (with_reducible repeat (first | apply Kd.R_alloc | apply Kd.R_drewN | apply Kd.R_drew)); exact HO285.out))) (below_size (by repeat (first | (with_reducible first | exact HB.out | apply below_alloc | apply pw_below_drewN | apply below_drew1) | exact HB.out)))); have n2_ := Aside0.mk (below_step (by repeat (first | (with_reducible first | exact HB.out | apply below_alloc | apply pw_below_drewN | apply below_drew1) | exact HB.out)) hb); clear HO285; clear HB; have HO285 := n0_; have HO289 := n1_; have HB := n2_; clear n0_ n1_ n2_; (try clear hb); (try clear hb2); (try clear hk); (try clear hi); (try clear ho0)) | ((with_reducible refine gate_callee (f := 12) rfl ?_); refine goesL_ (some 23) rfl rfl Try.func12 (by kernel_rfl) rfl #[.slice A0 l0.length c0] rfl (by (try simp only [List.map_toArray, List.map_cons, List.map_nil]); first | done | rfl | (simp only [List.length_drop, List.length_take]; rfl)) ?_; (with_reducible refine (laws_toIntS.calls k _ _ l0 t290 _ ?side1 ?side2 A5.out).mono ?_); (case side1 => repeat (first | exact (Kd.C_below HR0.out HB.out) | (with_reducible refine Kd.C_alloc ?_ _) | (with_reducible refine Kd.C_drewN ?_ _) | (with_reducible refine Kd.C_drew ?_))); (case side2 => exact HC0.out); rintro e w32 ⟨v291, rfl, ho0, hb⟩; refine ⟨_, rfl, ?_⟩; have n0_ := Aside0.mk (Kd.R_elder' (by (with_reducible repeat (first | apply Kd.R_alloc | apply Kd.R_drewN | apply Kd.R_drew)); exact HO285.out) (Kd.R_base ho0) hb); have n1_ := Aside0.mk (Kd.S_elder' (by (with_reducible repeat (first | apply Kd.S_alloc | apply Kd.S_drewN | apply Kd.S_drew)); exact HO289.out) (Kd.R_base ho0) hb); have n2_ := Aside0.mk (Kd.R_lower (Kd.R_new' ho0 (Kd.R_lt (by (with_reducible repeat (first | apply Kd.R_alloc | apply Kd.R_drewN | apply Kd.R_drew)); exact HO285.out))) (below_size (by repeat (first | (with_reducible first | exact HB.out | apply below_alloc | apply pw_below_drewN | apply below_drew1) | exact HB.out)))); have n3_ := Aside0.mk (below_step (by repeat (first | (with_reducible first | exact HB.out | apply below_alloc | apply pw_below_drewN | apply below_drew1) | exact HB.out)) hb); clear HO285; clear HO289; clear HB; have HO285 := n0_; have HO289 := n1_; have HO292 := n2_; have HB := n3_; clear n0_ n1_ n2_ n3_; (try clear hb); (try clear hb2); (try clear hk); (try clear hi); (try clear ho0); obtain ⟨Ao33, co33, eo33⟩ := Kd.R_slice HO292.out; subst eo33) | ((with_reducible refine gate_callee (f := 15) rfl ?_); refine goesL_ (some 26) rfl rfl Try.func15 (by kernel_rfl) rfl #[.slice Ao33 t290.length co33] rfl (by (try simp only [List.map_toArray, List.map_cons, List.map_nil]); first | done | rfl | (simp only [List.length_drop, List.length_take]; rfl)) ?_; (with_reducible refine (impl_LeastLevels.calls k _ _ t290 t293 t294 _ ?side1 ?side2 A6.out).mono ?_); (case side1 => repeat (first | exact (Kd.R_reads' HO292.out).2.2 | (with_reducible refine Kd.C_alloc ?_ _) | (with_reducible refine Kd.C_drewN ?_ _) | (with_reducible refine Kd.C_drew ?_))); (case side2 => exact (Kd.R_reads' HO292.out).2.1); rintro e w34 ⟨v295, rfl, ho0, hb⟩; refine ⟨_, rfl, ?_⟩; have HL_HO285 := Aside0.mk (R_lt_of (by (with_reducible repeat (first | apply Kd.R_alloc | apply Kd.R_drewN | apply Kd.R_drew)); exact HO285.out) hb); have n0_ := Aside0.mk (Kd.R_below (by (with_reducible repeat (first | apply Kd.R_alloc | apply Kd.R_drewN | apply Kd.R_drew)); exact HO285.out) hb); have HXw := Aside0.mk (Kd.S_old (by (with_reducible repeat (first | apply Kd.S_alloc | apply Kd.S_drewN | apply Kd.S_drew)); exact HO289.out) hb); have n1_ := Aside0.mk (Kd.S_elder' (by (with_reducible repeat (first | apply Kd.S_alloc | apply Kd.S_drewN | apply Kd.S_drew)); exact HO289.out) (Kd.S_base ho0) hb); have HL_HO292 := Aside0.mk (R_lt_of (by (with_reducible repeat (first | apply Kd.R_alloc | apply Kd.R_drewN | apply Kd.R_drew)); exact HO292.out) hb); have n2_ := Aside0.mk (Kd.R_below (by (with_reducible repeat (first | apply Kd.R_alloc | apply Kd.R_drewN | apply Kd.R_drew)); exact HO292.out) hb); have HXg := Aside0.mk (Kd.S_lower (Kd.S_mono (Kd.S_bound ho0) (fun _ h_ => And.intro h_.2.1 h_.2.2.1)) (below_size (by repeat (first | (with_reducible first | exact HB.out | apply below_alloc | apply pw_below_drewN | apply below_drew1) | exact HB.out)))); have HC := Aside0.mk (Kept.refl w34 (fun k_ => some k_ = (.slice Ao33 t290.length co33 : Value).ownBlock)); have n3_ := Aside0.mk (Kd.S_lower (Kd.S_new' (Kd.S_new' (Kd.S_new' ho0 (Kd.R_lt (by (with_reducible repeat (first | apply Kd.R_alloc | apply Kd.R_drewN | apply Kd.R_drew)); exact HO285.out))) (Kd.S_lt (by (with_reducible repeat (first | apply Kd.S_alloc | apply Kd.S_drewN | apply Kd.S_drew)); exact HO289.out))) (Kd.R_lt (by (with_reducible repeat (first | apply Kd.R_alloc | apply Kd.R_drewN | apply Kd.R_drew)); exact HO292.out))) (below_size (by repeat (first | (with_reducible first | exact HB.out | apply below_alloc | apply pw_below_drewN | apply below_drew1) | exact HB.out)))); have n4_ := Aside0.mk (below_step (by repeat (first | (with_reducible first | exact HB.out | apply below_alloc | apply pw_below_drewN | apply below_drew1) | exact HB.out)) hb); clear HO285; clear HO289; clear HO292; clear HB; have HO285 := n0_; have HO289 := n1_; have HO292 := n2_; have HO296 := n3_; have HB := n4_; clear n0_ n1_ n2_ n3_ n4_; (try clear hb); (try clear hb2); (try clear hk); (try clear hi); (try clear ho0); obtain ⟨Ao35, co35, eo35⟩ := Kd.S_slice HO296.out; subst eo35; obtain ⟨Ao36, co36, eo36⟩ := Kd.S_slice HO289.out; subst eo36) | ((with_reducible refine gate_callee (f := 16) rfl ?_); refine goesL_ (some 31) rfl rfl Try.func16 (by kernel_rfl) rfl #[.slice Ao35 t293.length co35, .slice Ao36 t286.length co36] rfl (by (try simp only [List.map_toArray, List.map_cons, List.map_nil]); first | done | rfl | (simp only [List.length_drop, List.length_take]; rfl)) ?_; (with_reducible refine (laws_eqIntSS.calls k _ _ t293 _ _ t286 true _ ?side1 ?side2 ?side3 ?side4 A7.out).mono ?_); (case side1 => repeat (first | exact (Kd.S_reads' HO296.out).2.2 | (with_reducible refine Kd.C_alloc ?_ _) | (with_reducible refine Kd.C_drewN ?_ _) | (with_reducible refine Kd.C_drew ?_))); (case side2 => exact (Kd.S_reads' HO296.out).2.1); (case side3 => repeat (first | exact (Kd.S_reads' HO289.out).2.2 | (with_reducible refine Kd.C_alloc ?_ _) | (with_reducible refine Kd.C_drewN ?_ _) | (with_reducible refine Kd.C_drew ?_))); (case side4 => exact (Kd.S_reads' HO289.out).2.1); rintro e w' ⟨rfl, ⟨nd, rfl⟩⟩; refine ⟨_, rfl, ?_⟩) | ((with_reducible refine gate_callee (f := 12) rfl ?_); refine goesL_ (some 40) rfl rfl Try.func12 (by kernel_rfl) rfl #[.slice A0 l0.length c0] rfl (by (try simp only [List.map_toArray, List.map_cons, List.map_nil]); first | done | rfl | (simp only [List.length_drop, List.length_take]; rfl)) ?_; (with_reducible refine (laws_toIntS.calls k _ _ l0 t298 _ ?side1 ?side2 A10.out).mono ?_); (case side1 => repeat (first | exact (Kd.C_below HR0.out (by repeat (first | (with_reducible first | exact HB.out | apply below_alloc | apply pw_below_drewN | apply below_drew1) | exact HB.out))) | (with_reducible refine Kd.C_alloc ?_ _) | (with_reducible refine Kd.C_drewN ?_ _) | (with_reducible refine Kd.C_drew ?_))); (case side2 => exact HC0.out); rintro e w37 ⟨v299, rfl, ho0, hb⟩; refine ⟨_, rfl, ?_⟩; have n0_ := Aside0.mk (Kd.R_elder' (by (with_reducible repeat (first | apply Kd.R_alloc | apply Kd.R_drewN | apply Kd.R_drew)); exact HO285.out) (Kd.R_base ho0) hb); have n1_ := Aside0.mk (Kd.S_elder' (by (with_reducible repeat (first | apply Kd.S_alloc | apply Kd.S_drewN | apply Kd.S_drew)); exact HO289.out) (Kd.R_base ho0) hb); have n2_ := Aside0.mk (Kd.R_elder' (by (with_reducible repeat (first | apply Kd.R_alloc | apply Kd.R_drewN | apply Kd.R_drew)); exact HO292.out) (Kd.R_base ho0) hb); have n3_ := Aside0.mk (Kd.S_elder' (by (with_reducible repeat (first | apply Kd.S_alloc | apply Kd.S_drewN | apply Kd.S_drew)); exact HO296.out) (Kd.R_base ho0) hb); have HL_HO300 := Aside0.mk (new_of (by repeat (with_reducible first | exact HC.out | apply Kept.drewN | apply Kept.drew | apply Kept.alloc)) (Kd.R_base ho0)); have n4_ := Aside0.mk (Kd.R_lower (Kd.R_new' (Kd.R_new' ho0 (Kd.R_lt (by (with_reducible repeat (first | apply Kd.R_alloc | apply Kd.R_drewN | apply Kd.R_drew)); exact HO285.out))) (Kd.R_lt (by (with_reducible repeat (first | apply Kd.R_alloc | apply Kd.R_drewN | apply Kd.R_drew)); exact HO292.out))) (below_size (by repeat (first | (with_reducible first | exact HB.out | apply below_alloc | apply pw_below_drewN | apply below_drew1) | exact HB.out)))); replace HC := Aside0.mk (Kept.below (by repeat (with_reducible first | exact HC.out | apply Kept.drewN | apply Kept.drew | apply Kept.alloc)) hb); have n5_ := Aside0.mk (below_step (by repeat (first | (with_reducible first | exact HB.out | apply below_alloc | apply pw_below_drewN | apply below_drew1) | exact HB.out)) hb); clear HO285; clear HO289; clear HO292; clear HO296; clear HB; have HO285 := n0_; have HO289 := n1_; have HO292 := n2_; have HO296 := n3_; have HO300 := n4_; have HB := n5_; clear n0_ n1_ n2_ n3_ n4_ n5_; (try clear hb); (try clear hb2); (try clear hk); (try clear hi); (try clear ho0); obtain ⟨Ao38, co38, eo38⟩ := Kd.R_slice HO300.out; subst eo38) | ((with_reducible refine gate_callee (f := 8) rfl ?_); refine goesL_ (some 41) rfl rfl Try.func8 (by kernel_rfl) rfl #[.slice Ao33 t290.length co33, .slice Ao38 t298.length co38] rfl (by (try simp only [List.map_toArray, List.map_cons, List.map_nil]); first | done | rfl | (simp only [List.length_drop, List.length_take]; rfl)) ?_; (with_reducible refine (laws_eqIntS.calls k _ _ t290 _ _ t298 true _ ?side1 ?side2 ?side3 ?side4 A11.out).mono ?_); (case side1 => repeat (first | exact (Kd.R_reads' HO292.out).2.2 | (with_reducible refine Kd.C_alloc ?_ _) | (with_reducible refine Kd.C_drewN ?_ _) | (with_reducible refine Kd.C_drew ?_))); (case side2 => exact (Kd.R_reads' HO292.out).2.1); (case side3 => repeat (first | exact (Kd.R_reads' HO300.out).2.2 | (with_reducible refine Kd.C_alloc ?_ _) | (with_reducible refine Kd.C_drewN ?_ _) | (with_reducible refine Kd.C_drew ?_))); (case side4 => exact (Kd.R_reads' HO300.out).2.1); rintro e w' ⟨rfl, ⟨nd, rfl⟩⟩; refine ⟨_, rfl, ?_⟩) | ((with_reducible refine gate_callee (f := 9) rfl ?_); refine goesL_ (some 45) rfl rfl Try.func9 (by kernel_rfl) rfl #[.slice Ao33 t290.length co33, .int .i64 1] rfl (by (try simp only [List.map_toArray, List.map_cons, List.map_nil]); first | done | rfl | (simp only [List.length_drop, List.length_take]; rfl)) ?_; (with_reducible refine (laws_markIntS.calls k (fun k_ => some k_ = (.slice Ao33 t290.length co33 : Value).ownBlock) (.slice Ao33 t290.length co33) t290 1 t302 t303 w _ ?side1 ?side2 A13.out).mono ?_); (case side1 => repeat (first | (with_reducible first | exact HB.out | apply below_alloc | apply pw_below_drewN | apply below_drew1) | exact HB.out)); (case side2 => exact Kd.R_tight rfl HO292.out); rintro e w39 ⟨rfl, hy0, hb, hkp⟩; refine ⟨_, rfl, ?_⟩; have n0_ := Aside0.mk (Kd.R_mono (ok' := fun k_ => some k_ ≠ (.slice Ao33 t290.length co33 : Value).ownBlock ∧ some k_ ≠ (.slice Ao38 t298.length co38 : Value).ownBlock) (Kd.R_keptB (HO285.out) hkp (fun k_ hk_ hs_ => absurd hs_ (by revert hk_; simp only [and_imp, true_implies]; intros; assumption))) (fun k_ hk_ => by revert hk_; simp only [and_imp, true_implies]; intros; (repeat' apply And.intro) <;> assumption)); have n1_ := Aside0.mk (Kd.S_mono (ok' := fun k_ => some k_ ≠ (.slice Ao30 t283.length co30 : Value).ownBlock ∧ some k_ ≠ (.slice Ao33 t290.length co33 : Value).ownBlock ∧ some k_ ≠ (.slice Ao35 t293.length co35 : Value).ownBlock ∧ some k_ ≠ (.slice Ao38 t298.length co38 : Value).ownBlock) (Kd.S_keptB (HO289.out) hkp (fun k_ hk_ hs_ => absurd hs_ (by revert hk_; simp only [and_imp, true_implies]; intros; assumption))) (fun k_ hk_ => by revert hk_; simp only [and_imp, true_implies]; intros; (repeat' apply And.intro) <;> assumption)); have n2_ := Aside0.mk (Kd.R_reok rfl hy0 (fun k_ e_ => HO292.out.1 k_ e_)); have n3_ := Aside0.mk (Kd.S_mono (ok' := fun k_ => some k_ ≠ (.slice Ao30 t283.length co30 : Value).ownBlock ∧ some k_ ≠ (.slice Ao36 t286.length co36 : Value).ownBlock ∧ some k_ ≠ (.slice Ao33 t290.length co33 : Value).ownBlock ∧ some k_ ≠ (.slice Ao38 t298.length co38 : Value).ownBlock) (Kd.S_keptB (HO296.out) hkp (fun k_ hk_ hs_ => absurd hs_ (by revert hk_; simp only [and_imp, true_implies]; intros; assumption))) (fun k_ hk_ => by revert hk_; simp only [and_imp, true_implies]; intros; (repeat' apply And.intro) <;> assumption)); have n4_ := Aside0.mk (Kd.R_mono (ok' := fun k_ => some k_ ≠ (.slice Ao30 t283.length co30 : Value).ownBlock ∧ some k_ ≠ (.slice Ao33 t290.length co33 : Value).ownBlock) (Kd.R_keptB (HO300.out) hkp (fun k_ hk_ hs_ => absurd hs_ (by revert hk_; simp only [and_imp, true_implies]; intros; assumption))) (fun k_ hk_ => by revert hk_; simp only [and_imp, true_implies]; intros; (repeat' apply And.intro) <;> assumption)); replace HC := Aside0.mk (Kept.then_ (S := (fun k_ => some k_ = (.slice Ao33 t290.length co33 : Value).ownBlock)) (by repeat (with_reducible first | exact HC.out | apply Kept.drewN | apply Kept.drew | apply Kept.alloc)) hkp (by intro k_ h_; exact .inl (by first | exact h_ | exact .inl h_ | exact .inr h_))); have n5_ := Aside0.mk (hb); clear HO285; clear HO289; clear HO292; clear HO296; clear HO300; clear HB; have HO285 := n0_; have HO289 := n1_; have HO292 := n2_; have HO296 := n3_; have HO300 := n4_; have HB := n5_; clear n0_ n1_ n2_ n3_ n4_ n5_; (try clear hb); (try clear hkp); (try clear hy0)) | (go_at_call 16; (with_reducible refine (laws_eqIntSS.calls k _ _ t293 _ _ t286 true _ ?side1 ?side2 ?side3 ?side4 A15.out).mono ?_); (case side1 => repeat (first | exact (Kd.S_reads' HO296.out).2.2 | (with_reducible refine Kd.C_alloc ?_ _) | (with_reducible refine Kd.C_drewN ?_ _) | (with_reducible refine Kd.C_drew ?_))); (case side2 => exact (Kd.S_reads' HO296.out).2.1); (case side3 => repeat (first | exact (Kd.S_reads' HO289.out).2.2 | (with_reducible refine Kd.C_alloc ?_ _) | (with_reducible refine Kd.C_drewN ?_ _) | (with_reducible refine Kd.C_drew ?_))); (case side4 => exact (Kd.S_reads' HO289.out).2.1); rintro e w' ⟨rfl, ⟨nd, rfl⟩⟩) | ((with_reducible refine gate_callee (f := 17) rfl ?_); refine goesL_ (some 61) rfl rfl Try.func17 (by kernel_rfl) rfl #[.slice Ao35 t293.length co35, .int .i64 1] rfl (by (try simp only [List.map_toArray, List.map_cons, List.map_nil]); first | done | rfl | (simp only [List.length_drop, List.length_take]; rfl)) ?_; (with_reducible refine (laws_markIntSS.calls k ?P0_ (.slice Ao35 t293.length co35) t293 1 t305 u305 w _ ?side1 ?side2 A17.out).mono ?_); (case side1 => exact (by repeat (first | (with_reducible first | exact HB.out | apply below_alloc | apply pw_below_drewN | apply below_drew1) | exact HB.out))); (case side2 => exact (by first | (have hx_ := Kd.S_kept HXg.out (Kept.drewN HC.out nd) (by intro k_ h1_ h2_; rcases h2_ with h2_ <;> (first | exact Nat.lt_irrefl _ (Nat.lt_of_lt_of_le (HL_HO292.out k_ h2_.symm) h1_.1))); exact hx_) | (have hx_ := Kd.S_kept HXg.out HC.out (by intro k_ h1_ h2_; rcases h2_ with h2_ <;> (first | exact Nat.lt_irrefl _ (Nat.lt_of_lt_of_le (HL_HO292.out k_ h2_.symm) h1_.1))); exact hx_))); rintro e w40 ⟨rfl, hy0, hb, hkp⟩; refine ⟨_, rfl, ?_⟩; have n0_ := Aside0.mk (Kd.R_kept (Kd.R_tight rfl (by (with_reducible repeat (first | apply Kd.R_alloc | apply Kd.R_drewN | apply Kd.R_drew)); exact HO285.out)) hkp (by intro k_ h1_ h2_; have h3_ := HL_HO285.out k_ h1_.symm; have h4_ := h2_.1; have h5_ := h2_.2; omega)); have n1_ := Aside0.mk (Kd.S_kept (Kd.S_kept HXw.out (by repeat (with_reducible first | exact HC.out | apply Kept.drewN | apply Kept.drew | apply Kept.alloc)) (by intro k_ h1_ h2_; revert h1_; simp only [and_imp, true_implies]; intros; rcases h2_ with h2_ <;> exact absurd h2_ (by assumption))) hkp (by intro k_ h1_ h2_; exact absurd h1_.2 (Nat.not_lt.2 h2_.1))); have n2_ := Aside0.mk (Kd.R_kept (Kd.R_tight rfl (by (with_reducible repeat (first | apply Kd.R_alloc | apply Kd.R_drewN | apply Kd.R_drew)); exact HO292.out)) hkp (by intro k_ h1_ h2_; have h3_ := HL_HO292.out k_ h1_.symm; have h4_ := h2_.1; have h5_ := h2_.2; omega)); have n3_ := Aside0.mk hy0; have n4_ := Aside0.mk (Kd.R_kept (Kd.R_tight rfl (by (with_reducible repeat (first | apply Kd.R_alloc | apply Kd.R_drewN | apply Kd.R_drew)); exact HO300.out)) hkp (by intro k_ h1_ h2_; have h3_ := HL_HO300.out k_ h1_.symm; have h4_ := h2_.1; have h5_ := h2_.2; omega)); have n5_ := Aside0.mk hb; clear HO285; clear HO289; clear HO292; clear HO296; clear HO300; clear HB; have HO285 := n0_; have HO289 := n1_; have HO292 := n2_; have HO296 := n3_; have HO300 := n4_; have HB := n5_; clear n0_ n1_ n2_ n3_ n4_ n5_; (try clear hb); (try clear hb2); (try clear hk); (try clear hi); clear hkp hy0) | ((with_reducible refine gate_callee (f := 18) rfl ?_); refine goesL_ (some 64) rfl rfl Try.func18 (by kernel_rfl) rfl #[.slice Ao35 u305.length co35, .int .i64 1] rfl (by (try simp only [List.map_toArray, List.map_cons, List.map_nil]); first | done | (rw [show u305.length = t293.length from (Kd.S_reads' HO296.out).1.symm] <;> rfl) | rfl | (simp only [List.length_drop, List.length_take]; rfl)) ?_; (with_reducible refine (laws_heldIntSS.calls k _ _ u305 1 t306 _ ?side1 ?side2 A18.out).mono ?_); (case side1 => repeat (first | exact (Kd.S_reads' HO296.out).2.2 | (with_reducible refine Kd.C_alloc ?_ _) | (with_reducible refine Kd.C_drewN ?_ _) | (with_reducible refine Kd.C_drew ?_))); (case side2 => rw [show u305.length = t293.length from (Kd.S_reads' HO296.out).1.symm]; exact (Kd.S_reads' HO296.out).2.1); rintro e w' ⟨rfl, ⟨nd, rfl⟩⟩; refine ⟨_, rfl, ?_⟩) | ((with_reducible refine gate_callee (f := 12) rfl ?_); refine goesL_ (some 72) rfl rfl Try.func12 (by kernel_rfl) rfl #[.slice A0 l0.length c0] rfl (by (try simp only [List.map_toArray, List.map_cons, List.map_nil]); first | done | rfl | (simp only [List.length_drop, List.length_take]; rfl)) ?_; (with_reducible refine (laws_toIntS.calls k _ _ l0 t307 _ ?side1 ?side2 A21.out).mono ?_); (case side1 => repeat (first | exact (Kd.C_below HR0.out (by repeat (first | (with_reducible first | exact HB.out | apply below_alloc | apply pw_below_drewN | apply below_drew1) | exact HB.out))) | (with_reducible refine Kd.C_alloc ?_ _) | (with_reducible refine Kd.C_drewN ?_ _) | (with_reducible refine Kd.C_drew ?_))); (case side2 => exact HC0.out); rintro e w41 ⟨v308, rfl, ho0, hb⟩; refine ⟨_, rfl, ?_⟩; have n0_ := Aside0.mk (Kd.R_elder' (by (with_reducible repeat (first | apply Kd.R_alloc | apply Kd.R_drewN | apply Kd.R_drew)); exact HO285.out) (Kd.R_base ho0) hb); have n1_ := Aside0.mk (Kd.S_elder' (by (with_reducible repeat (first | apply Kd.S_alloc | apply Kd.S_drewN | apply Kd.S_drew)); exact HO289.out) (Kd.R_base ho0) hb); have n2_ := Aside0.mk (Kd.R_elder' (by (with_reducible repeat (first | apply Kd.R_alloc | apply Kd.R_drewN | apply Kd.R_drew)); exact HO292.out) (Kd.R_base ho0) hb); have n3_ := Aside0.mk (Kd.S_elder' (by (with_reducible repeat (first | apply Kd.S_alloc | apply Kd.S_drewN | apply Kd.S_drew)); exact HO296.out) (Kd.R_base ho0) hb); have n4_ := Aside0.mk (Kd.R_elder' (by (with_reducible repeat (first | apply Kd.R_alloc | apply Kd.R_drewN | apply Kd.R_drew)); exact HO300.out) (Kd.R_base ho0) hb); have n5_ := Aside0.mk (Kd.R_lower (Kd.R_new' (Kd.R_new' (Kd.R_new' ho0 (Kd.R_lt (by (with_reducible repeat (first | apply Kd.R_alloc | apply Kd.R_drewN | apply Kd.R_drew)); exact HO285.out))) (Kd.R_lt (by (with_reducible repeat (first | apply Kd.R_alloc | apply Kd.R_drewN | apply Kd.R_drew)); exact HO292.out))) (Kd.R_lt (by (with_reducible repeat (first | apply Kd.R_alloc | apply Kd.R_drewN | apply Kd.R_drew)); exact HO300.out))) (below_size (by repeat (first | (with_reducible first | exact HB.out | apply below_alloc | apply pw_below_drewN | apply below_drew1) | exact HB.out)))); have n6_ := Aside0.mk (below_step (by repeat (first | (with_reducible first | exact HB.out | apply below_alloc | apply pw_below_drewN | apply below_drew1) | exact HB.out)) hb); clear HO285; clear HO289; clear HO292; clear HO296; clear HO300; clear HB; have HO285 := n0_; have HO289 := n1_; have HO292 := n2_; have HO296 := n3_; have HO300 := n4_; have HO309 := n5_; have HB := n6_; clear n0_ n1_ n2_ n3_ n4_ n5_ n6_; (try clear hb); (try clear hb2); (try clear hk); (try clear hi); (try clear ho0); obtain ⟨Ao42, co42, eo42⟩ := Kd.R_slice HO309.out; subst eo42) | ((with_reducible refine gate_callee (f := 15) rfl ?_); refine goesL_ (some 73) rfl rfl Try.func15 (by kernel_rfl) rfl #[.slice Ao42 t307.length co42] rfl (by (try simp only [List.map_toArray, List.map_cons, List.map_nil]); first | done | rfl | (simp only [List.length_drop, List.length_take]; rfl)) ?_; (with_reducible refine (impl_LeastLevels.calls k _ _ t307 t310 t311 _ ?side1 ?side2 A22.out).mono ?_); (case side1 => repeat (first | exact (Kd.R_reads' HO309.out).2.2 | (with_reducible refine Kd.C_alloc ?_ _) | (with_reducible refine Kd.C_drewN ?_ _) | (with_reducible refine Kd.C_drew ?_))); (case side2 => exact (Kd.R_reads' HO309.out).2.1); rintro e w43 ⟨v312, rfl, ho0, hb⟩; refine ⟨_, rfl, ?_⟩; have n0_ := Aside0.mk (Kd.R_below (by (with_reducible repeat (first | apply Kd.R_alloc | apply Kd.R_drewN | apply Kd.R_drew)); exact HO285.out) hb); have n1_ := Aside0.mk (Kd.S_elder' (by (with_reducible repeat (first | apply Kd.S_alloc | apply Kd.S_drewN | apply Kd.S_drew)); exact HO289.out) (Kd.S_base ho0) hb); have n2_ := Aside0.mk (Kd.R_below (by (with_reducible repeat (first | apply Kd.R_alloc | apply Kd.R_drewN | apply Kd.R_drew)); exact HO292.out) hb); have n3_ := Aside0.mk (Kd.S_elder' (by (with_reducible repeat (first | apply Kd.S_alloc | apply Kd.S_drewN | apply Kd.S_drew)); exact HO296.out) (Kd.S_base ho0) hb); have n4_ := Aside0.mk (Kd.R_below (by (with_reducible repeat (first | apply Kd.R_alloc | apply Kd.R_drewN | apply Kd.R_drew)); exact HO300.out) hb); have n5_ := Aside0.mk (Kd.R_below (by (with_reducible repeat (first | apply Kd.R_alloc | apply Kd.R_drewN | apply Kd.R_drew)); exact HO309.out) hb); have n6_ := Aside0.mk (Kd.S_lower (Kd.S_new' (Kd.S_new' (Kd.S_new' (Kd.S_new' (Kd.S_new' (Kd.S_new' ho0 (Kd.R_lt (by (with_reducible repeat (first | apply Kd.R_alloc | apply Kd.R_drewN | apply Kd.R_drew)); exact HO285.out))) (Kd.S_lt (by (with_reducible repeat (first | apply Kd.S_alloc | apply Kd.S_drewN | apply Kd.S_drew)); exact HO289.out))) (Kd.R_lt (by (with_reducible repeat (first | apply Kd.R_alloc | apply Kd.R_drewN | apply Kd.R_drew)); exact HO292.out))) (Kd.S_lt (by (with_reducible repeat (first | apply Kd.S_alloc | apply Kd.S_drewN | apply Kd.S_drew)); exact HO296.out))) (Kd.R_lt (by (with_reducible repeat (first | apply Kd.R_alloc | apply Kd.R_drewN | apply Kd.R_drew)); exact HO300.out))) (Kd.R_lt (by (with_reducible repeat (first | apply Kd.R_alloc | apply Kd.R_drewN | apply Kd.R_drew)); exact HO309.out))) (below_size (by repeat (first | (with_reducible first | exact HB.out | apply below_alloc | apply pw_below_drewN | apply below_drew1) | exact HB.out)))); have n7_ := Aside0.mk (below_step (by repeat (first | (with_reducible first | exact HB.out | apply below_alloc | apply pw_below_drewN | apply below_drew1) | exact HB.out)) hb); clear HO285; clear HO289; clear HO292; clear HO296; clear HO300; clear HO309; clear HB; have HO285 := n0_; have HO289 := n1_; have HO292 := n2_; have HO296 := n3_; have HO300 := n4_; have HO309 := n5_; have HO313 := n6_; have HB := n7_; clear n0_ n1_ n2_ n3_ n4_ n5_ n6_ n7_; (try clear hb); (try clear hb2); (try clear hk); (try clear hi); (try clear ho0); obtain ⟨Ao44, co44, eo44⟩ := Kd.S_slice HO313.out; subst eo44) | ((with_reducible refine gate_callee (f := 16) rfl ?_); refine goesL_ (some 78) rfl rfl Try.func16 (by kernel_rfl) rfl #[.slice Ao44 t310.length co44, .slice Ao36 t286.length co36] rfl (by (try simp only [List.map_toArray, List.map_cons, List.map_nil]); first | done | rfl | (simp only [List.length_drop, List.length_take]; rfl)) ?_; (with_reducible refine (laws_eqIntSS.calls k _ _ t310 _ _ t286 true _ ?side1 ?side2 ?side3 ?side4 A23.out).mono ?_); (case side1 => repeat (first | exact (Kd.S_reads' HO313.out).2.2 | (with_reducible refine Kd.C_alloc ?_ _) | (with_reducible refine Kd.C_drewN ?_ _) | (with_reducible refine Kd.C_drew ?_))); (case side2 => exact (Kd.S_reads' HO313.out).2.1); (case side3 => repeat (first | exact (Kd.S_reads' HO289.out).2.2 | (with_reducible refine Kd.C_alloc ?_ _) | (with_reducible refine Kd.C_drewN ?_ _) | (with_reducible refine Kd.C_drew ?_))); (case side4 => exact (Kd.S_reads' HO289.out).2.1); rintro e w' ⟨rfl, ⟨nd, rfl⟩⟩; refine ⟨_, rfl, ?_⟩) | ((with_reducible refine gate_callee (f := 18) rfl ?_); refine goesL_ (some 87) rfl rfl Try.func18 (by kernel_rfl) rfl #[.slice Ao35 u305.length co35, .int .i64 1] rfl (by (try simp only [List.map_toArray, List.map_cons, List.map_nil]); first | done | (rw [show u305.length = t293.length from (Kd.S_reads' HO296.out).1.symm] <;> rfl) | rfl | (simp only [List.length_drop, List.length_take]; rfl)) ?_; (with_reducible refine (laws_heldIntSS.calls k _ _ u305 1 t315 _ ?side1 ?side2 A26.out).mono ?_); (case side1 => repeat (first | exact (Kd.S_reads' HO296.out).2.2 | (with_reducible refine Kd.C_alloc ?_ _) | (with_reducible refine Kd.C_drewN ?_ _) | (with_reducible refine Kd.C_drew ?_))); (case side2 => rw [show u305.length = t293.length from (Kd.S_reads' HO296.out).1.symm]; exact (Kd.S_reads' HO296.out).2.1); rintro e w' ⟨rfl, ⟨nd, rfl⟩⟩; refine ⟨_, rfl, ?_⟩))
                          go_ret
                          exact ⟨by first | rfl | (simp [errW_none, errW_some] <;> rfl) | (simp [*, errW_none, errW_some] <;> rfl), by repeat (first | (with_reducible first | exact HB.out | apply below_alloc | apply pw_below_drewN | apply below_drew1) | exact HB.out)⟩
                        · rw [if_neg c28] at H
                          exact absurd H (by simp)
                  · replace c24 := Bool.eq_false_iff.mpr c24
                    subst c24
                    have H1 : (none) = some r := by rw [if_neg (show ¬ (false = true) by decide)] at H; exact H
                    clear H
                    have H := H1
                    clear H1
                    exact absurd H (by simp)
                · rw [if_neg c20] at H
                  exact absurd H (by simp)
            · replace c16 := Bool.eq_false_iff.mpr c16
              subst c16
              have H1 : (none) = some r := by rw [if_neg (show ¬ (false = true) by decide)] at H; exact H
              clear H
              have H := H1
              clear H1
              exact absurd H (by simp)
        · replace c12 := Bool.eq_false_iff.mpr c12
          subst c12
          have H1 : (none) = some r := by rw [if_neg (show ¬ (false = true) by decide)] at H; exact H
          clear H
          have H := H1
          clear H1
          exact absurd H (by simp)
    · replace c8 := Bool.eq_false_iff.mpr c8
      subst c8
      have H1 : (none) = some r := by rw [if_neg (show ¬ (false = true) by decide)] at H; exact H
      clear H
      have H := H1
      clear H1
      exact absurd H (by simp)

/-- THE ONE PURE STATEMENT of laws_FnExactLeastLevels: yours. -/
def laws_FnExactLeastLevels.Pure : Prop := ∀ (l0 : List Int), l0.length ≤ maxLen → l0.length * 8 ≤ 140737488351232 → (∀ x ∈ l0, (Lit.int .i64 x).wf = true) → ∃ k, laws_FnExactLeastLevels.f k l0 = some true
theorem laws_FnExactLeastLevels.walk (P : laws_FnExactLeastLevels.Pure) (a0 : Option Addr) (len0 cap0 : Nat) (z0 : List Int) (w : World) (w0 : (a0 = none ∧ len0 = 0 ∧ cap0 = 0 ∧ z0 = []) ∨ ∃ x, a0 = some x ∧ len0 ≤ cap0 ∧ cap0 ≤ maxLen ∧ z0.length = cap0 ∧ (∀ i, i < z0.length → w.cell? (x.add i) = some (.int .i64 (z0.getD i 0))) ∧ ∀ n ∈ z0, (Lit.int .i64 n).wf = true) (y0 : len0 * 8 ≤ 140737488351232) :
    Calls Try.prog 5 #[.slice a0 len0 cap0] w fun e w' => e = .returned (.bool true) ∧ Below w.heap.size w w' := by
  obtain ⟨l0, rfl, hr0, hm0, hw0, hc0⟩ := ReadsInt.ofRowC w0
  obtain ⟨k, h⟩ := P l0 hm0 y0 hw0
  refine (laws_FnExactLeastLevels.calls k _ _ l0 true w (Kd.C_of_reads (d := (0 : Int)) (h1 := fun _ => rfl) hr0) hc0 h).mono ?_
  rintro e w' ⟨rfl, hd⟩
  exact ⟨rfl, hd⟩

end Go.Proofs.Ytojbmihkdlkkcaa.B
