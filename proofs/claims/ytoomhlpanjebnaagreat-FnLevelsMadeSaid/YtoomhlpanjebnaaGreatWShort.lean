/- Words that the walks of this claim use: plain theorems on rows, worlds and rounds; no program. Conditions: those in each statement. (Written by print.sh for this seat; what the claim does not name is left out.) -/
import Derived.Test.YtoomhlpanjebnaaGreatE
namespace Go.Proofs.YtoomhlpanjebnaaGreat.B
open Go.RowKit Go.Proofs.YtoomhlpanjebnaaGreatW.PrintWords Go.Proofs.YtoomhlpanjebnaaGreatW.PrintLast Go.Proofs.YtoomhlpanjebnaaGreatW.PrintMore
set_option linter.unusedVariables false
set_option linter.unusedSimpArgs false
section
variable {w W w1 : World} {g : Nat} {t : TypeId} {a b c d e : Value}
theorem cf2_ (h : Aside0 (w.heap[g]? = some (.cells #[a, b] t (0, 0)))) : w.cell? ⟨g, 0, none⟩ = some a ∧ w.cell? ⟨g, 1, none⟩ = some b ∧ w.frozen? ⟨g, 0, none⟩ = false ∧ w.frozen? ⟨g, 1, none⟩ = false := ⟨(blk_cell h.out 0).trans rfl, (blk_cell h.out 1).trans rfl, blk_frozen h.out 0, blk_frozen h.out 1⟩
end
section
variable {P : Program} {ops : Array Oper} {rest : List Oper} {o : Oper} {ac : Act} {Q : Exit → Act → World → Prop} {w W w1 : World}
theorem gd_ (N : Tmp) (h : wpList P ops Q (o :: rest) ac W) (_hN : o.dst = some N := by rfl) : wpList P ops Q (o :: rest) ac W := h
theorem gc_ (f : FuncId) {az : Array Operand} {ts : Array TypeId} (h : wpList P ops Q (o :: rest) ac W) (_ho : o.op = .call { callee := .value (.func f), args := az, argTypes := ts } := by rfl) : wpList P ops Q (o :: rest) ac W := h
theorem bz_ (cs : Array Value) (t : TypeId) (HB : Aside0 (Below w.heap.size w w1))
    (h : ∀ g w2, Aside0 (w2.heap[g]? = some (.cells cs t (0, 0))) → Aside0 (w.heap.size ≤ g) → Aside0 (Below w.heap.size w w2) → g = W.heap.size → Below W.heap.size W w2 → wpList P ops Q rest (ac.put o.dst (.pointer (some ⟨g, 0, none⟩))) w2) {N : Tmp} (hd : o.dst = some N := by rfl) (hgd : o.guard = none := by rfl)
    (f : Below w.heap.size w w1 → Below w.heap.size w W := by (intro h_; repeat (first | (with_reducible first | exact h_ | apply below_alloc | apply pw_below_drewN | apply below_drew1 | refine below_set ?_ (Aside0.out (by assumption))) | exact h_)))
    (hrun : (execOp ac.eval o).run P W = .ok (.value (.pointer (some ⟨W.heap.size, 0, none⟩))) (W.alloc (.cells cs t (0, 0))) := by first | (go_simp; done) | (go_simp; rfl)) : wpList P ops Q (o :: rest) ac W :=
  box_event hgd hd hrun fun g hg w2 hbox hb => h g w2 ⟨hbox⟩ ⟨by rw [hg]; exact below_size (f HB.out)⟩ ⟨below_step (f HB.out) hb⟩ hg hb
theorem by_ (cs : Array Value) (t : TypeId) (HB : Aside0 (Below w.heap.size w w1))
    (h : ∀ g w2, Aside0 (w2.heap[g]? = some (.cells cs t (0, 0))) → Aside0 (w.heap.size ≤ g) → Aside0 (Below w.heap.size w w2) → wpList P ops Q rest (ac.put o.dst (.pointer (some ⟨g, 0, none⟩))) w2) {N : Tmp} (hd : o.dst = some N := by rfl) (hgd : o.guard = none := by rfl)
    (f : Below w.heap.size w w1 → Below w.heap.size w W := by (intro h_; repeat (first | (with_reducible first | exact h_ | apply below_alloc | apply pw_below_drewN | apply below_drew1 | refine below_set ?_ (Aside0.out (by assumption))) | exact h_)))
    (hrun : (execOp ac.eval o).run P W = .ok (.value (.pointer (some ⟨W.heap.size, 0, none⟩))) (W.alloc (.cells cs t (0, 0))) := by first | (go_simp; done) | (go_simp; rfl)) : wpList P ops Q (o :: rest) ac W :=
  box_event hgd hd hrun fun g hg w2 hbox hb => h g w2 ⟨hbox⟩ ⟨by rw [hg]; exact below_size (f HB.out)⟩ ⟨below_step (f HB.out) hb⟩
theorem gn_ (N : Option Tmp) {f : FuncId} {fn : Func} {az : Array Operand} {ts : Array TypeId} {args : Array Value} {v : Value} {R : World → Prop} (hf : P.funcs[f]? = some fn) (C : Calls P f args W fun e w' => e = .returned v ∧ R w')
    (hop : o.op = .call { callee := .value (.func f), args := az, argTypes := ts })
    (h : ∀ w', R w' → wpList P ops Q rest (ac.put N v) w') (hd : o.dst = N := by rfl) (hg : o.guard = none := by rfl) (hname : (fn.name == "runtime.NumGoroutine") = false := by kernel_rfl) (hb : fn.body.isSome = true := by rfl)
    (hargs : az.map ac.eval = args := by ((try simp only [List.map_toArray, List.map_cons, List.map_nil]); first | done | rfl | (simp only [List.length_drop, List.length_take]; rfl))) : wpList P ops Q (o :: rest) ac W :=
  goesL_ N hd hg hf hname hb args hop hargs (C.mono fun _ w' k => ⟨_, k.1, h w' k.2⟩)
theorem gx_ (N : Option Tmp) {f : FuncId} {fn : Func} {az : Array Operand} {ts : Array TypeId} {args : Array Value} {F : Value → Value} {R : Value → World → Prop} (hf : P.funcs[f]? = some fn) (C : Calls P f args W fun e w' => ∃ v, e = .returned (F v) ∧ R v w')
    (hop : o.op = .call { callee := .value (.func f), args := az, argTypes := ts })
    (h : ∀ v w', R v w' → wpList P ops Q rest (ac.put N (F v)) w') (hd : o.dst = N := by rfl) (hg : o.guard = none := by rfl) (hname : (fn.name == "runtime.NumGoroutine") = false := by kernel_rfl) (hb : fn.body.isSome = true := by rfl)
    (hargs : az.map ac.eval = args := by ((try simp only [List.map_toArray, List.map_cons, List.map_nil]); first | done | rfl | (simp only [List.length_drop, List.length_take]; rfl))) : wpList P ops Q (o :: rest) ac W :=
  goesL_ N hd hg hf hname hb args hop hargs (C.mono fun _ w' ⟨v, k, r⟩ => ⟨_, k, h v w' r⟩)
end
section
variable {w wa wb wc wd we wf wq W w1 : World} {g g1 g2 g3 g4 g5 g6 : Nat} {o o1 o2 o3 o4 o5 o6 : Obj}
theorem nb_ (h : Aside0 (w.heap[g]? = some o)) (hg : g1 = W.heap.size) (hb : Below W.heap.size W w1) (f : w.heap[g]? = some o → W.heap[g]? = some o := by (intro h_; (with_reducible repeat (first | refine blk_drewN ?_ _ | refine blk_drew ?_ | refine blk_alloc ?_ _)); exact h_)) : Aside0 (g ≠ g1) ∧ Aside0 (g1 ≠ g) ∧ Aside0 (w1.heap[g]? = some o) :=
  ⟨⟨by rw [hg]; exact Nat.ne_of_lt (blk_lt (f h.out))⟩, ⟨by rw [hg]; exact Nat.ne_of_gt (blk_lt (f h.out))⟩, ⟨blk_below (f h.out) hb⟩⟩
theorem u1_ (hb : Below W.heap.size W w1) (h1 : Aside0 (wa.heap[g1]? = some o1)) (HB : Aside0 (Below w.heap.size w wf)) (k1 : wa.heap[g1]? = some o1 → W.heap[g1]? = some o1 := by (intro h_; (with_reducible repeat (first | refine blk_drewN ?_ _ | refine blk_drew ?_ | refine blk_alloc ?_ _)); exact h_)) (f : Below w.heap.size w wf → Below w.heap.size w W := by (intro h_; repeat (first | (with_reducible first | exact h_ | apply below_alloc | apply pw_below_drewN | apply below_drew1 | refine below_set ?_ (Aside0.out (by assumption))) | exact h_))) : Aside0 (w1.heap[g1]? = some o1) ∧ Aside0 (Below w.heap.size w w1) := ⟨⟨blk_below (k1 h1.out) hb⟩, ⟨below_step (f HB.out) hb⟩⟩
theorem u2_ (hb : Below W.heap.size W w1) (h1 : Aside0 (wa.heap[g1]? = some o1)) (h2 : Aside0 (wb.heap[g2]? = some o2)) (HB : Aside0 (Below w.heap.size w wf)) (k1 : wa.heap[g1]? = some o1 → W.heap[g1]? = some o1 := by (intro h_; (with_reducible repeat (first | refine blk_drewN ?_ _ | refine blk_drew ?_ | refine blk_alloc ?_ _)); exact h_)) (k2 : wb.heap[g2]? = some o2 → W.heap[g2]? = some o2 := by (intro h_; (with_reducible repeat (first | refine blk_drewN ?_ _ | refine blk_drew ?_ | refine blk_alloc ?_ _)); exact h_)) (f : Below w.heap.size w wf → Below w.heap.size w W := by (intro h_; repeat (first | (with_reducible first | exact h_ | apply below_alloc | apply pw_below_drewN | apply below_drew1 | refine below_set ?_ (Aside0.out (by assumption))) | exact h_))) : Aside0 (w1.heap[g1]? = some o1) ∧ Aside0 (w1.heap[g2]? = some o2) ∧ Aside0 (Below w.heap.size w w1) := ⟨⟨blk_below (k1 h1.out) hb⟩, ⟨blk_below (k2 h2.out) hb⟩, ⟨below_step (f HB.out) hb⟩⟩
theorem bp_ {cs0 cs : Array Value} {t : TypeId} (h : Aside0 (w.heap[g]? = some (.cells cs0 t (0, 0)))) (f : w.heap[g]? = some (.cells cs0 t (0, 0)) → W.heap[g]? = some (.cells cs t (0, 0)) := by (intro h_; (repeat (first | (with_reducible first | exact h_ | refine blk_drewN ?_ _ | refine blk_drew ?_ | refine blk_alloc ?_ _) | apply blk_put | exact h_)); all_goals rfl)) : W.heap[g]? = some (.cells cs t (0, 0)) := f h.out
theorem Kp_ {p q : Prop} (h : Aside0 p) (f : p → q := by (intro h_; repeat (first | (with_reducible first | exact h_ | apply Kept.alloc | apply Kept.drewN | apply Kept.drew) | refine Kept.setCell ?_ (.inr (Aside0.out (by assumption))) _ | exact h_))) : q := f h.out
theorem Kq_ {p q : Prop} (h : Aside0 p) (f : p → q := by (intro h_; repeat (first | (with_reducible first | exact h_ | apply KeepBut.set_ | apply keep_drewN | apply keep_drew | apply keep_alloc) | exact h_))) : q := f h.out
theorem Kr_ {p q x : Prop} (h : Aside0 p) (g : Aside0 x) (f : p → x → q := by (intro h_ g_; repeat (first | (with_reducible first | exact h_ | apply KeepBut.set_ | apply keep_drewN | apply keep_drew | apply keep_alloc) | refine keep_far ?_ g_ _ | exact h_))) : q := f h.out g.out
theorem Ks_ {p q x y : Prop} (h : Aside0 p) (g : Aside0 x) (g2 : Aside0 y) (f : p → x → y → q := by (intro h_ g_ g2_; repeat (first | (with_reducible first | exact h_ | apply KeepBut.set_ | apply keep_drewN | apply keep_drew | apply keep_alloc) | refine keep_far ?_ g_ _ | refine keep_far ?_ g2_ _ | exact h_))) : q := f h.out g.out g2.out
end
theorem nl_ {p : Prop} (h : p := by first | exact Kd.R_nil _ _ _ _ _ | exact Kd.N_nil _ _ _ _ _ | exact Kd.V_nil _ _ _ _ _ | exact Kd.Q_nil _ _ _ _ _ | exact Kd.S_nil _ _ _ _ _) : p := h
theorem dd_ {p : Prop} (h : p := by first | exact ⟨rfl, _, World.drewN_drewN _ _ _⟩ | exact ⟨rfl, _, Eq.trans (World.drewN_drewN _ _ _) (congrArg (World.drewN _) (Nat.add_assoc _ _ _))⟩) : p := h
section
variable {α β γ δ ε ζ : Type}
theorem bc_ {t : Bool} {a b : Option α} {r : α} (h : (if t = true then a else b) = some r) : (t = false ∧ b = some r) ∨ (t = true ∧ a = some r) := by cases t <;> simp_all
theorem bd_ {t : Bool} {a b : Option α} {r : α} (h : (if t = true then a else b) = some r) : (t = true ∧ a = some r) ∨ (t = false ∧ b = some r) := by cases t <;> simp_all
theorem s1_ {a b : α} (h : some a = some b) : a = b := Option.some.inj h
theorem s2_ {a c : α} {b d : β} (h : some (a, b) = some (c, d)) : a = c ∧ b = d := by simpa using h
theorem s3_ {a d : α} {b e : β} {c f : γ} (h : some (a, b, c) = some (d, e, f)) : a = d ∧ b = e ∧ c = f := by simpa using h
theorem s4_ {a a' : α} {b b' : β} {c c' : γ} {d d' : δ} (h : some (a, b, c, d) = some (a', b', c', d')) : a = a' ∧ b = b' ∧ c = c' ∧ d = d' := by simpa using h
theorem ya_ {x : α} {f : α → Option β} {r : β} (h : (some x).bind f = some r) : ∃ y, Aside0 (y = x) ∧ f y = some r := ⟨x, ⟨rfl⟩, h⟩
end
section
variable {P : Program} {md : Region.Mode} {ops : Array Oper} {Q : Exit → Act → World → Prop} {S : World → Prop} {ds : List Nat}
theorem puw_ {oi : Oper} {v : Value} {fuel : Nat} {l : Array Bool} {a : Act} {w : World} (i : Nat) (N : Tmp) {a' : Act} (h : wpAnyLast P md ops Q S ds fuel (l.setIfInBounds i true) a' w) (hi : ops[i]? = some oi := by rfl) (hN : oi.dst = some N := by rfl) (hc : anyB md ops l (l.setIfInBounds i true) i = true := by first | exact any_of (Aside0.out (by assumption)) (by kernel_rfl) | kernel_rfl) (hQ : ∀ c a w, Q (.panic c) (a.put oi.dst v) w → Q (.panic c) a w := by exact fun _ _ _ h => h) (hy : Yields P ops oi v a := by first | exact Or.inl ⟨by rfl, by (intro w'; go_simp; with_reducible rfl)⟩ | exact Or.inr ⟨by rfl, rfl⟩) (ha : a.put (some N) v = a' := by (simp only [Act.put, List.setIfInBounds_toArray, List.set_cons_zero, List.set_cons_succ, i64_w, i32_w]; rfl)) : wpAnyLast P md ops Q S ds (fuel + 1) l a w := pure_ (l.setIfInBounds i true) hi hN hc hQ hy ha h
theorem tkw_ {oi : Oper} {v : Value} {fuel : Nat} {l : Array Bool} {a : Act} {w : World} (i : Nat) (N : Tmp) {a' : Act} (hS : S w) (h : wpAnyLast P md ops Q S ds fuel (l.setIfInBounds i true) a' w) (hi : ops[i]? = some oi := by rfl) (hN : oi.dst = some N := by rfl) (hc : takeB md ops ds l (l.setIfInBounds i true) i = true := by first | exact take_ofW (Aside0.out (by assumption)) (Aside0.out (by assumption)) (by kernel_rfl) | kernel_rfl) (hQ : ∀ c a w, Q (.panic c) (a.put oi.dst v) w → Q (.panic c) a w := by exact fun _ _ _ h => h) (hy : YieldsIf P ops S oi v a := by exact Or.inl ⟨by rfl, by (intro w' hs_; (try obtain ⟨s0_, s1_⟩ := hs_); (try obtain ⟨s1_, s2_⟩ := s1_); go_simp; with_reducible rfl)⟩) (ha : a.put (some N) v = a' := by (simp only [Act.put, List.setIfInBounds_toArray, List.set_cons_zero, List.set_cons_succ, i64_w, i32_w]; rfl)) : wpAnyLast P md ops Q S ds (fuel + 1) l a w := take_ (l.setIfInBounds i true) hi hN hc hQ hy hS ha h
end
theorem ai_ {k : IntKind} {w : World} {A : Option Addr} {n : Nat} {xs : List Int} (h : Kd.C (Kd.int k) w A n xs) (i : Int) (p : 0 ≤ i := by exact od_) (q : i < (n : Int) := by exact od_) : ∃ ad, A = some ad ∧ w.cell? (ad.add i.toNat) = some (.int k (rd xs i)) ∧ (0 ≤ i) = True ∧ (i < (n : Int)) = True := by
  obtain ⟨ad, e, hx⟩ := Kd.at_int h i p q
  exact ⟨ad, e, hx, eq_true p, eq_true q⟩
theorem ah_ {k : IntKind} {w W : World} {A : Option Addr} {n : Nat} {xs : List Int} (h : Aside0 (Kd.C (Kd.int k) w A n xs)) (HB : Aside0 (Below w.heap.size w W)) (i : Int) (p : 0 ≤ i := by exact od_) (q : i < (n : Int) := by exact od_) : ∃ ad, A = some ad ∧ W.cell? (ad.add i.toNat) = some (.int k (rd xs i)) ∧ (0 ≤ i) = True ∧ (i < (n : Int)) = True := by
  obtain ⟨ad, e, hx⟩ := Kd.at_int h.out i p q
  exact ⟨ad, e, (HB.out.cell (World.block_lt_of_cell? w _ hx)).trans hx, eq_true p, eq_true q⟩
theorem ib_ {α : Type} {c : Prop} {i : Decidable c} {a b : Option α} {r : α} (h : (if c then a else b) = some r) : (¬ c ∧ b = some r) ∨ (c ∧ a = some r) := by
  by_cases k : c
  · rw [if_pos k] at h; exact .inr ⟨k, h⟩
  · rw [if_neg k] at h; exact .inl ⟨k, h⟩
theorem ij_ {α : Type} {c : Prop} {i : Decidable c} {a b : Option α} {r : α} (h : (if c then a else b) = some r) : (c ∧ a = some r) ∨ (¬ c ∧ b = some r) := (ib_ h).symm
theorem in_ {α : Type} {c : Prop} {i : Decidable c} {a : Option α} {r : α} (h : (if c then a else none) = some r) : c ∧ a = some r := (ib_ h).resolve_left fun k => by cases k.2
theorem ip_ {α : Type} {c : Prop} {i : Decidable c} {b : Option α} {r : α} (h : (if c then none else b) = some r) : ¬ c ∧ b = some r := (ib_ h).resolve_right fun k => by cases k.2
theorem dgt_ {x y : Int} (h : x > y) : decide (y < x) = true := decide_eq_true h
theorem dgf_ {x y : Int} (h : ¬ x > y) : decide (y < x) = false := decide_eq_false h
theorem dlt_ {x y : Int} (h : x ≥ y) : decide (y ≤ x) = true := decide_eq_true h
theorem dlf_ {x y : Int} (h : ¬ x ≥ y) : decide (y ≤ x) = false := decide_eq_false h
theorem qf_ {α : Type} [BEq α] [LawfulBEq α] {x y : α} (h : ¬ x = y) : (x == y) = false ∧ (x != y) = true := ⟨beq_eq_false_iff_ne.mpr h, bne_iff_ne.mpr h⟩
theorem qt_ {α : Type} [BEq α] [LawfulBEq α] {x y : α} (h : x = y) : (x == y) = true ∧ (x != y) = false := ⟨beq_iff_eq.mpr h, bne_eq_false_iff_eq.mpr h⟩

end Go.Proofs.YtoomhlpanjebnaaGreat.B
