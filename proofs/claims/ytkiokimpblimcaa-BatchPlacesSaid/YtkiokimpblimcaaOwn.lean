/- Words of this repo's own beside the print's: a shared row that is not empty does not lie in a block apart from it. No condition. -/
import Derived.Test.YtkiokimpblimcaaWWords
import Derived.Test.YtkiokimpblimcaaWMore
import Derived.Test.YtkiokimpblimcaaWShare
import Derived.Test.YtkiokimpblimcaaWLast
import Derived.Test.YtkiokimpblimcaaWTab
import Derived.WalkKit
namespace Go.Proofs.YtkiokimpblimcaaW.PrintWords
open Go.RowKit
theorem pos_of_at {t : Int} {n : Nat} (h : t < (n : Int)) (h0 : 0 ≤ t) : 0 < n := by omega
namespace Kd
theorem V_away {α : Type} {d : Kd α} {e : Nat} {W : World} {base : Nat} {ok : Nat → Prop} {v : Value} {xs : List α} (h : V d e W base ok v xs) {g : Nat} (hok : ∀ k, ok k → k ≠ g)
    (hn : 0 < xs.length := by first | omega | exact pos_of_at (of_eq_true (by assumption)) (of_eq_true (by assumption)) | exact pos_of_at (of_decide_eq_true (by assumption)) (of_decide_eq_true (by assumption))) (hs : 0 < d.sz := by decide) : some g ≠ v.ownBlock := by
  intro hg
  obtain ⟨A, c, rfl, hl, hf⟩ := h
  cases A with
  | none => simp [Value.ownBlock] at hg
  | some ad =>
    have hb : ad.block = g := by simpa [Value.ownBlock] using hg.symm
    have hC := hf { W with heap := W.heap.setIfInBounds g (.cells #[] 0 (0, 0)) } (fun k hk _ => by
      have := hok k hk
      simp only [Array.getElem?_setIfInBounds]
      rw [if_neg (fun e => this e.symm)])
    obtain ⟨_, _, h3⟩ := hC
    obtain ⟨ad', he, hj⟩ := h3 hn
    injection he with he
    subst he
    obtain ⟨c, hcl, _, hcc⟩ := hj 0 xs[0] (List.getElem?_eq_getElem hn)
    have hc0 : 0 < c.length := by omega
    have h0 := hcc 0 c[0] (List.getElem?_eq_getElem hc0)
    have e0 : (ad.add (0 * d.sz + 0)).block = g := by rw [add_block]; exact hb
    unfold World.cell? at h0
    rw [e0] at h0
    simp only [Array.getElem?_setIfInBounds, if_true] at h0
    split at h0 <;> simp at h0
    rename_i h1
    split at h1
    · simp at h1
      obtain ⟨rfl, _⟩ := h1
      simp at h0
    · simp at h1
/-- The same, where the print goes by the blocks' types. -/
theorem V_ne {α : Type} {d : Kd α} {e : Nat} {W : World} {base : Nat} {ok : Nat → Prop} {v : Value} {xs : List α} (h : V d e W base ok v xs) {g T : Nat} {cs : Array Value} {sh : Nat × Nat} (_ : W.heap[g]? = some (.cells cs T sh)) (_ : e ≠ T)
    (hok : ∀ k, ok k → k ≠ g := by intro k hk he; subst he; simp at hk)
    (hn : 0 < xs.length := by first | omega | exact pos_of_at (of_eq_true (by assumption)) (of_eq_true (by assumption)) | exact pos_of_at (by assumption) (by assumption) | exact pos_of_at (of_decide_eq_true (by assumption)) (of_decide_eq_true (by assumption))) (hs : 0 < d.sz := by decide) : some g ≠ v.ownBlock := V_away h hok hn hs
end Kd
end Go.Proofs.YtkiokimpblimcaaW.PrintWords
namespace Go.Proofs.YtkiokimpblimcaaW.PrintWords
open Go.RowKit
/-! What the walks' side goals say again and again, by a proof that is typed once. -/
theorem nf_ {P : Prop} {r : Bool} (h : some false = some r) (hr : r = true) : P := by rw [hr] at h; exact absurd h (by simp)
/-- A block, behind draws and what was made since. -/
theorem bw_ {P Q : Prop} (b : P) (h : P → Q := by intro b_; (with_reducible repeat (first | refine blk_drewN ?_ _ | refine blk_drew ?_ | refine blk_alloc ?_ _)); exact b_) : Q := h b
/-- All below the call's beginning is as it was. -/
theorem hb_ {P Q : Prop} (b : Aside0 P) (h : P → Q := by intro b_; repeat (first | (with_reducible first | exact b_ | apply below_alloc | apply pw_below_drewN | apply below_drew1 | refine below_set ?_ (Aside0.out (by assumption))) | exact b_)) : Q := h b.out
/-- A row of the call's own, behind draws and what was made since. -/
theorem rw_ {P Q : Prop} (b : P) (h : P → Q := by intro b_; (with_reducible repeat (first | apply Kd.R_alloc | apply Kd.R_drewN | apply Kd.R_drew)); exact b_) : Q := h b
theorem vw_ {P Q : Prop} (b : P) (h : P → Q := by intro b_; (with_reducible repeat (first | apply Kd.V_alloc | apply Kd.V_drewN | apply Kd.V_drew)); exact b_) : Q := h b
theorem as_ {P : Prop} (h : P := by first | (with_reducible assumption) | assumption) : P := h
/-- A block, behind stores too. -/
theorem bp_ {P Q : Prop} (b : P) (h : P → Q := by intro b_; (with_reducible repeat (first | exact b_ | apply blk_drewN | apply blk_drew | apply blk_alloc | (apply blk_far; rotate_left; exact Aside0.out (by assumption); rotate_right) | apply blk_put)); all_goals ((try simp only [List.setIfInBounds_toArray, List.set_cons_succ, List.set_cons_zero]) <;> rfl)) : Q := h b
theorem bb_ {w0 W W' : World} {g : Nat} {o : Obj} (b : Aside0 (w0.heap[g]? = some o)) (hb : Below W.heap.size W W') (h : w0.heap[g]? = some o → W.heap[g]? = some o := by intro b_; (with_reducible repeat (first | refine blk_drewN ?_ _ | refine blk_drew ?_ | refine blk_alloc ?_ _)); exact b_) : Aside0 (W'.heap[g]? = some o) := ⟨blk_below (h b.out) hb⟩
theorem gw_ {w w0 W : World} {g : Nat} (b : Aside0 (Below w.heap.size w w0)) (hg : g = W.heap.size) (h : Below w.heap.size w w0 → Below w.heap.size w W := by intro b_; repeat (first | (with_reducible first | exact b_ | apply below_alloc | apply pw_below_drewN | apply below_drew1 | refine below_set ?_ (Aside0.out (by assumption))) | exact b_)) : Aside0 (w.heap.size ≤ g) := ⟨by rw [hg]; exact below_size (h b.out)⟩
theorem ne_ {w0 W : World} {g g' : Nat} {o : Obj} (b : Aside0 (w0.heap[g]? = some o)) (hg : g' = W.heap.size) (h : w0.heap[g]? = some o → W.heap[g]? = some o := by intro b_; (with_reducible repeat (first | refine blk_drewN ?_ _ | refine blk_drew ?_ | refine blk_alloc ?_ _)); exact b_) : Aside0 (g ≠ g') := ⟨by rw [hg]; exact Nat.ne_of_lt (blk_lt (h b.out))⟩
theorem en_ {w0 W : World} {g g' : Nat} {o : Obj} (b : Aside0 (w0.heap[g]? = some o)) (hg : g' = W.heap.size) (h : w0.heap[g]? = some o → W.heap[g]? = some o := by intro b_; (with_reducible repeat (first | refine blk_drewN ?_ _ | refine blk_drew ?_ | refine blk_alloc ?_ _)); exact b_) : Aside0 (g' ≠ g) := ⟨by rw [hg]; exact Nat.ne_of_gt (blk_lt (h b.out))⟩
theorem bs_ {w w0 W W' : World} (b : Aside0 (Below w.heap.size w w0)) (hb : Below W.heap.size W W') (h : Below w.heap.size w w0 → Below w.heap.size w W := by intro b_; repeat (first | (with_reducible first | exact b_ | apply below_alloc | apply pw_below_drewN | apply below_drew1 | refine below_set ?_ (Aside0.out (by assumption))) | exact b_)) : Aside0 (Below w.heap.size w W') := ⟨below_step (h b.out) hb⟩
theorem bq_ {w0 W W' : World} {g : Nat} {o : Obj} {o' : Obj} (b : Aside0 (w0.heap[g]? = some o)) (hb : Below W.heap.size W W') (h : w0.heap[g]? = some o → W.heap[g]? = some o' := by intro b_; (with_reducible repeat (first | exact b_ | apply blk_drewN | apply blk_drew | apply blk_alloc | (apply blk_far; rotate_left; exact Aside0.out (by assumption); rotate_right) | apply blk_put)); all_goals ((try simp only [List.setIfInBounds_toArray, List.set_cons_succ, List.set_cons_zero]) <;> rfl)) : Aside0 (W'.heap[g]? = some o') := ⟨blk_below (h b.out) hb⟩
/-- An argument's row, behind draws and what was made since. -/
theorem cw_ {P Q : Prop} (b : P) (h : P → Q := by intro b_; repeat (first | exact b_ | (with_reducible refine Kd.C_alloc ?_ _) | (with_reducible refine Kd.C_drewN ?_ _) | (with_reducible refine Kd.C_drew ?_))) : Q := h b
/-- An argument's cell is as it was. -/
theorem cb_ {w W : World} {p : Addr} {v : Value} (b : Aside0 (Below w.heap.size w W)) (h : w.cell? p = some v) : W.cell? p = some v := (b.out.cell (World.block_lt_of_cell? w _ h)).trans h
section
variable {W : World} {g T : Nat} {v0 v1 v2 v3 v4 v5 v6 : Value}
/-- A block's cells, and that none is frozen. -/
theorem bc1_ (b : Aside0 (W.heap[g]? = some (.cells #[v0] T (0, 0)))) : W.cell? ⟨g, 0, none⟩ = some v0 ∧ W.frozen? ⟨g, 0, none⟩ = false := ⟨(blk_cell b.out 0).trans rfl, blk_frozen b.out 0⟩
theorem bc2_ (b : Aside0 (W.heap[g]? = some (.cells #[v0, v1] T (0, 0)))) : W.cell? ⟨g, 0, none⟩ = some v0 ∧ W.cell? ⟨g, 1, none⟩ = some v1 ∧ W.frozen? ⟨g, 0, none⟩ = false ∧ W.frozen? ⟨g, 1, none⟩ = false := ⟨(blk_cell b.out 0).trans rfl, (blk_cell b.out 1).trans rfl, blk_frozen b.out 0, blk_frozen b.out 1⟩
theorem bc3_ (b : Aside0 (W.heap[g]? = some (.cells #[v0, v1, v2] T (0, 0)))) : W.cell? ⟨g, 0, none⟩ = some v0 ∧ W.cell? ⟨g, 1, none⟩ = some v1 ∧ W.cell? ⟨g, 2, none⟩ = some v2 ∧ W.frozen? ⟨g, 0, none⟩ = false ∧ W.frozen? ⟨g, 1, none⟩ = false ∧ W.frozen? ⟨g, 2, none⟩ = false := ⟨(blk_cell b.out 0).trans rfl, (blk_cell b.out 1).trans rfl, (blk_cell b.out 2).trans rfl, blk_frozen b.out 0, blk_frozen b.out 1, blk_frozen b.out 2⟩
theorem bc4_ (b : Aside0 (W.heap[g]? = some (.cells #[v0, v1, v2, v3] T (0, 0)))) : W.cell? ⟨g, 0, none⟩ = some v0 ∧ W.cell? ⟨g, 1, none⟩ = some v1 ∧ W.cell? ⟨g, 2, none⟩ = some v2 ∧ W.cell? ⟨g, 3, none⟩ = some v3 ∧ W.frozen? ⟨g, 0, none⟩ = false ∧ W.frozen? ⟨g, 1, none⟩ = false ∧ W.frozen? ⟨g, 2, none⟩ = false ∧ W.frozen? ⟨g, 3, none⟩ = false := ⟨(blk_cell b.out 0).trans rfl, (blk_cell b.out 1).trans rfl, (blk_cell b.out 2).trans rfl, (blk_cell b.out 3).trans rfl, blk_frozen b.out 0, blk_frozen b.out 1, blk_frozen b.out 2, blk_frozen b.out 3⟩
theorem bc7_ (b : Aside0 (W.heap[g]? = some (.cells #[v0, v1, v2, v3, v4, v5, v6] T (0, 0)))) : W.cell? ⟨g, 0, none⟩ = some v0 ∧ W.cell? ⟨g, 1, none⟩ = some v1 ∧ W.cell? ⟨g, 2, none⟩ = some v2 ∧ W.cell? ⟨g, 3, none⟩ = some v3 ∧ W.cell? ⟨g, 4, none⟩ = some v4 ∧ W.cell? ⟨g, 5, none⟩ = some v5 ∧ W.cell? ⟨g, 6, none⟩ = some v6 ∧ W.frozen? ⟨g, 0, none⟩ = false ∧ W.frozen? ⟨g, 1, none⟩ = false ∧ W.frozen? ⟨g, 2, none⟩ = false ∧ W.frozen? ⟨g, 3, none⟩ = false ∧ W.frozen? ⟨g, 4, none⟩ = false ∧ W.frozen? ⟨g, 5, none⟩ = false ∧ W.frozen? ⟨g, 6, none⟩ = false :=
  ⟨(blk_cell b.out 0).trans rfl, (blk_cell b.out 1).trans rfl, (blk_cell b.out 2).trans rfl, (blk_cell b.out 3).trans rfl, (blk_cell b.out 4).trans rfl, (blk_cell b.out 5).trans rfl, (blk_cell b.out 6).trans rfl, blk_frozen b.out 0, blk_frozen b.out 1, blk_frozen b.out 2, blk_frozen b.out 3, blk_frozen b.out 4, blk_frozen b.out 5, blk_frozen b.out 6⟩
end
section
open Go.Proofs.YtkiokimpblimcaaW.PrintLast
variable {P : Program} {md : Region.Mode} {ops : Array Oper} {Q : Exit → Act → World → Prop} {S : World → Prop} {ds : List Nat}
/-- A step of a region that yields in every world. -/
theorem pp_ {i : Nat} {N : Option Tmp} {oi : Oper} {v : Value} {fuel : Nat} {l : Array Bool} {a : Act} {w : World} (l' : Array Bool) (hi : ops[i]? = some oi) (hN : oi.dst = N) (hc : anyB md ops l l' i = true)
    (hQ : ∀ c a w, Q (.panic c) (a.put oi.dst v) w → Q (.panic c) a w := by exact fun _ _ _ h => h) (hy : Yields P ops oi v a := by refine Or.inl ⟨by rfl, ?_⟩; intro w'; go_simp; with_reducible rfl) {a' : Act}
    (ha : a.put N v = a' := by simp only [Act.put, List.setIfInBounds_toArray, List.set_cons_zero, List.set_cons_succ, i64_w, i32_w]; rfl) (h : wpAnyLast P md ops Q S ds fuel l' a' w) : wpAnyLast P md ops Q S ds (fuel + 1) l a w := pure_ l' hi hN hc hQ hy ha h
end
theorem isE_ (l : List UInt8) : l.isEmpty = !(l != []) := by cases l <;> rfl
/-- What a walk's end says of what is told. -/
theorem er_ {P : Prop} (h : P := by first | rfl | (simp [errW_none, errW_some] <;> rfl) | (simp [*, errW_none, errW_some] <;> rfl) | (simp [isE_]; done)) : P := h
theorem es_ {P : Prop} (h : P := by first | rfl | (simp; done) | (simp [*]; done) | (simp [isE_]; done)) : P := h
/-- A value that is given a name. -/
theorem th_ {P Q : Prop} {α : Type} {y z : α} (H : P) (hy : y = z) (h : P → y = z → Q := by intro H_ hy_; first | (rw [hy_]; with_reducible exact H_) | (have H2_ := (Option.bind_some _ _).symm.trans H_; rw [hy_]; with_reducible exact H2_) | (have H2_ := (Option.bind_some _ _).symm.trans H_; with_reducible exact H2_) | with_reducible exact H_ | (rw [hy_]; exact H_) | exact H_) : Q := h H hy
section
variable {α : Type} {d : Kd α} {e base g : Nat} {ok : Nat → Prop} {W W' : World} {v : Value} {xs : List α}
/-- A row, behind stores to a block that is none of its own. -/
theorem rf_ (b : Kd.R d e W base ok v xs) (hok : ∀ k, ok k → k ≠ g) (h : Kd.R d e W base ok v xs → (∀ k, ok k → k ≠ g) → Kd.R d e W' base ok v xs := by intro b_ h_; with_reducible repeat (first | exact b_ | refine Kd.R_far ?_ h_ _)) : Kd.R d e W' base ok v xs := h b hok
theorem vf_ (b : Kd.V d e W base ok v xs) (hok : ∀ k, ok k → k ≠ g) (h : Kd.V d e W base ok v xs → (∀ k, ok k → k ≠ g) → Kd.V d e W' base ok v xs := by intro b_ h_; with_reducible repeat (first | exact b_ | refine Kd.V_far ?_ h_ _)) : Kd.V d e W' base ok v xs := h b hok
end
section
variable {P : Program} {ops : Array Oper} {rest : List Oper} {o : Oper} {a : Act} {Q : Exit → Act → World → Prop} {W : World}
/-- A block that is made, by its name. -/
theorem be_ (hgd : o.guard = none := by rfl) {N : Tmp} (hd : o.dst = some N := by rfl) {cs : Array Value} {t : TypeId}
    (hrun : (execOp a.eval o).run P W = .ok (.value (.pointer (some ⟨W.heap.size, 0, none⟩))) (W.alloc (.cells cs t (0, 0))) := by first | (go_simp; done) | (go_simp; rfl))
    (h : ∀ g, g = W.heap.size → ∀ w1, w1.heap[g]? = some (.cells cs t (0, 0)) → Below W.heap.size W w1 → wpList P ops Q rest (a.put o.dst (.pointer (some ⟨g, 0, none⟩))) w1) : wpList P ops Q (o :: rest) a W := box_event hgd hd hrun h
/-- A call of a function by its name. -/
theorem ge_ {f : FuncId} {fn : Func} {as_ : Array Operand} {ts : Array TypeId} (N : Option Tmp) (h1 : o.dst = N) (h2 : o.guard = none) (h3 : P.funcs[f]? = some fn) (h4 : (fn.name == "runtime.NumGoroutine") = false) (h5 : fn.body.isSome = true) (args : Array Value)
    (h6 : o.op = .call { callee := .value (.func f), args := as_, argTypes := ts }) (h7 : as_.map a.eval = args := by (try simp only [List.map_toArray, List.map_cons, List.map_nil]); first | done | rfl | (simp only [List.length_drop, List.length_take]; rfl))
    (h : Calls P f args W fun e w' => ∃ v, e = .returned v ∧ wpList P ops Q rest (a.put N v) w') : wpList P ops Q (o :: rest) a W := Go.Proofs.YtkiokimpblimcaaW.PrintLast.goesL_ N h1 h2 h3 h4 h5 args h6 h7 h
end
end Go.Proofs.YtkiokimpblimcaaW.PrintWords
