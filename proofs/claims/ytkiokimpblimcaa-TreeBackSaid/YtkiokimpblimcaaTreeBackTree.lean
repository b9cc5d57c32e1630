/- The functions of layer 11 (trees), and their document's: what they tell, over plain lists of nodes. In pieces. -/
import Derived.Test.YtkiokimpblimcaaOTreeBackx
import Derived.Test.YtkiokimpblimcaaOTreeBackp
namespace Go.Proofs.Ytkiokimpblimcaa.TreeBackTree
open Go.RowKit Go.Proofs.YtkiokimpblimcaaW.PrintWords Go.Proofs.YtkiokimpblimcaaW.PrintLast Go.Proofs.YtkiokimpblimcaaW.PrintMore
open Go.Proofs.Ytkiokimpblimcaa.PTreeBack
set_option linter.unusedVariables false
set_option linter.unusedSimpArgs false

theorem wrap_id {x : Int} (h : -9223372036854775808 ≤ x) (h' : x ≤ 9223372036854775807) : wrap64 x = x := by unfold wrap64; omega
theorem ev_const {α : Type} {g : Nat → Option α} {r : α} (h : ∀ k, g k = some r) : Ev g r := ⟨0, fun k _ => h k⟩
theorem ev_off {α : Type} {g : Nat → Option α} {r : α} (K : Nat) (h : Ev (fun k => g (k + K)) r) : Ev g r := by
 obtain ⟨n, hn⟩ := h
 refine ⟨n + K, fun k hk => ?_⟩
 have h2 := hn (k - K) (by omega)
 simpa only [Nat.sub_add_cancel (show K ≤ k by omega)] using h2
theorem ev_bind {α β : Type} {g : Nat → Option α} {f : Nat → α → Option β} {a : α} {r : β} (h : Ev g a) (k : Ev (fun n => f n a) r) : Ev (fun n => (g n).bind (f n)) r := Ev.bind h k
theorem ev_pos {α : Type} {c : Prop} [Decidable c] {a b : Nat → Option α} {r : α} (h : c) (k : Ev a r) : Ev (fun n => if c then a n else b n) r := by
 simpa only [if_pos h] using k
theorem ev_neg {α : Type} {c : Prop} [Decidable c] {a b : Nat → Option α} {r : α} (h : ¬ c) (k : Ev b r) : Ev (fun n => if c then a n else b n) r := by
 simpa only [if_neg h] using k
theorem po_ {α : Type} {c : Prop} [Decidable c] {a b : Nat → Option α} {r : α} (k : Ev a r) (h : c := by omega) : Ev (fun n => if c then a n else b n) r := ev_pos h k
theorem ps_ {α : Type} {c : Prop} [Decidable c] {a b : Nat → Option α} {r : α} (k : Ev a r) (h : c := by simp) : Ev (fun n => if c then a n else b n) r := ev_pos h k
theorem no_ {α : Type} {c : Prop} [Decidable c] {a b : Nat → Option α} {r : α} (k : Ev b r) (h : ¬ c := by omega) : Ev (fun n => if c then a n else b n) r := ev_neg h k
theorem ns_ {α : Type} {c : Prop} [Decidable c] {a b : Nat → Option α} {r : α} (k : Ev b r) (h : ¬ c := by simp) : Ev (fun n => if c then a n else b n) r := ev_neg h k
/-- A node by its number. -/
def nd (ns : List S69) (i : Nat) : S69 := ns.getD i z69
theorem rd_nd (ns : List S69) (i : Nat) : rd_T69 ns (i : Int) = nd ns i := by simp [rd_T69, nd]
def Kid (ns : List S69) (n i : Nat) : Prop := ∃ j, 0 < j ∧ j < n ∧ (nd ns j).f0 = (i : Int)
def NodeOk (ns : List S69) (j : Nat) : Prop := 0 < j → 0 ≤ (nd ns j).f0 ∧ (nd ns j).f0 < (j : Int) ∧ 0 ≤ (nd ns j).f2 ∧ 0 ≤ (nd ns j).f3
def NextOk (ns : List S69) (j : Nat) : Prop :=
 (Kid ns ns.length j → 0 ≤ (nd ns j).f1 ∧ (nd ns j).f1 < (ns.length : Int) ∧ (nd ns (nd ns j).f1.toNat).f0 = (j : Int)) ∧ (¬ Kid ns ns.length j → (nd ns j).f1 = -1)
theorem has_is (ns : List S69) (c k : Int) : tree_book_has.f ns c k = some (decide (0 ≤ k ∧ k < (ns.length : Int))) := by
 unfold tree_book_has.f
 by_cases h : k ≥ 0
 ·rw [if_pos h]; simp [h]
 ·rw [if_neg h]; simp [h]
theorem check_l1 (ns : List S69) (c : Int) (fl : List Bool) (hn : ns.length ≤ 1024) (hf : fl.length = ns.length) (hk : ∀ i, i < ns.length → (fl.getD i false = true ↔ Kid ns ns.length i)) (d : Nat) :
  ∀ i, i + d = ns.length → ∃ b, Ev (fun k => tree_check.l1 k fl ns (ns.length : Int) (i : Int) ns c) b ∧ (b = true ↔ ∀ j, i ≤ j → j < ns.length → NextOk ns j) := by
 induction d with
 | zero =>
  intro i hi
  refine ⟨true, ev_off 1 ?_, by simp; intro j h1 h2; omega⟩
  simp only [tree_check.l1]
  exact no_ (Ev.now _)
 | succ d ih =>
  intro i hi
  have e1 : wrap64 ((i : Int) + 1) = ((i + 1 : Nat) : Int) := by rw [wrap_id (by omega) (by omega)]; rfl
  obtain ⟨b, h1, h2⟩ := ih (i + 1) (by omega)
  have step : NextOk ns i → (b = true ↔ ∀ j, i ≤ j → j < ns.length → NextOk ns j) := fun h => by
   rw [h2]
   refine ⟨fun g j h3 h4 => ?_, fun g j h3 h4 => g j (by omega) h4⟩
   by_cases hj : j = i
   ·subst hj; exact h
   ·exact g j (by omega) h4
  have bad : ¬ NextOk ns i → (false = true ↔ ∀ j, i ≤ j → j < ns.length → NextOk ns j) := fun h => ⟨by simp, fun g => absurd (g i (by omega) (by omega)) h⟩
  have rdf : rdOf false fl (i : Int) = fl.getD i false := by simp [rdOf]
  by_cases hkid : Kid ns ns.length i
  ·have hfl := (hk i (by omega)).2 hkid
   by_cases hr : 0 ≤ (nd ns i).f1 ∧ (nd ns i).f1 < (ns.length : Int)
   ·have e2 : rd_T69 ns (nd ns i).f1 = nd ns (nd ns i).f1.toNat := rfl
    by_cases hu : (nd ns (nd ns i).f1.toNat).f0 = (i : Int)
    ·refine ⟨b, ev_off 1 ?_, step ⟨fun _ => ⟨hr.1, hr.2, hu⟩, fun h => absurd hkid h⟩⟩
     simp only [tree_check.l1, rd_nd, has_is, rdf, hfl, e1, e2, Option.bind_some]
     exact po_ (po_ (po_ (po_ (ev_pos trivial (ev_pos (by simpa using hr) (ev_pos hr.1 (ev_pos hr.2 (ev_pos hu h1))))))))
    ·refine ⟨false, ev_off 1 ?_, bad fun h => hu (h.1 hkid).2.2⟩
     simp only [tree_check.l1, rd_nd, has_is, rdf, hfl, e1, e2, Option.bind_some]
     exact po_ (po_ (po_ (po_ (ev_pos trivial (ev_pos (by simpa using hr) (ev_pos hr.1 (ev_pos hr.2 (ev_neg hu (Ev.now _)))))))))
   ·refine ⟨false, ev_off 1 ?_, bad fun h => hr ⟨(h.1 hkid).1, (h.1 hkid).2.1⟩⟩
    simp only [tree_check.l1, rd_nd, has_is, rdf, hfl, e1, Option.bind_some]
    exact po_ (po_ (po_ (po_ (ev_pos trivial (ev_neg (by simpa using hr) (Ev.now _))))))
  ·have hfl : fl.getD i false = false := by
    cases h : fl.getD i false with
    | false => rfl
    | true => exact absurd ((hk i (by omega)).1 h) hkid
   by_cases hx : (nd ns i).f1 = -1
   ·refine ⟨b, ev_off 1 ?_, step ⟨fun h => absurd h hkid, fun _ => hx⟩⟩
    simp only [tree_check.l1, rd_nd, rdf, hfl, e1]
    exact po_ (po_ (po_ (po_ (ns_ (ev_pos hx h1)))))
   ·refine ⟨false, ev_off 1 ?_, bad fun h => hx (h.2 hkid)⟩
    simp only [tree_check.l1, rd_nd, rdf, hfl, e1]
    exact po_ (po_ (po_ (po_ (ns_ (ev_neg hx (Ev.now _))))))
theorem kid_succ (ns : List S69) (i j : Nat) : Kid ns (i + 1) j ↔ Kid ns i j ∨ (0 < i ∧ (nd ns i).f0 = (j : Int)) := by
 constructor
 ·rintro ⟨m, h1, h2, h3⟩
  by_cases hm : m = i
  ·subst hm; exact .inr ⟨h1, h3⟩
  ·exact .inl ⟨m, h1, by omega, h3⟩
 ·rintro (⟨m, h1, h2, h3⟩ | ⟨h1, h2⟩)
  ·exact ⟨m, h1, by omega, h3⟩
  ·exact ⟨i, h1, by omega, h2⟩
theorem check_l0 (ns : List S69) (c : Int) (hn : ns.length ≤ 1024) (d : Nat) :
  ∀ (i : Nat) (fl : List Bool), i + d = ns.length → fl.length = ns.length → (∀ j, j < ns.length → (fl.getD j false = true ↔ Kid ns i j)) →
  ∃ b, Ev (fun k => tree_check.l0 k fl ns (ns.length : Int) (i : Int) ns c) b ∧ (b = true ↔ (∀ j, i ≤ j → j < ns.length → NodeOk ns j) ∧ ∀ j, j < ns.length → NextOk ns j) := by
 induction d with
 | zero =>
  intro i fl hi hf hk
  obtain rfl : i = ns.length := by omega
  obtain ⟨b, h1, h2⟩ := check_l1 ns c fl hn hf hk ns.length 0 (by omega)
  refine ⟨b, ev_off 1 ?_, ?_⟩
  ·simp only [tree_check.l0]
   exact no_ h1
  ·rw [h2]
   exact ⟨fun g => ⟨fun j h3 h4 => by omega, fun j h3 => g j (by omega) h3⟩, fun g j _ h3 => g.2 j h3⟩
 | succ d ih =>
  intro i fl hi hf hk
  have e1 : wrap64 ((i : Int) + 1) = ((i + 1 : Nat) : Int) := by rw [wrap_id (by omega) (by omega)]; rfl
  have step : ∀ b : Bool, NodeOk ns i → (b = true ↔ (∀ j, i + 1 ≤ j → j < ns.length → NodeOk ns j) ∧ ∀ j, j < ns.length → NextOk ns j) → (b = true ↔ (∀ j, i ≤ j → j < ns.length → NodeOk ns j) ∧ ∀ j, j < ns.length → NextOk ns j) := fun b h g => by
   rw [g]
   refine ⟨fun g => ⟨fun j h3 h4 => ?_, g.2⟩, fun g => ⟨fun j h3 h4 => g.1 j (by omega) h4, g.2⟩⟩
   by_cases hj : j = i
   ·subst hj; exact h
   ·exact g.1 j (by omega) h4
  have bad : ¬ NodeOk ns i → (false = true ↔ (∀ j, i ≤ j → j < ns.length → NodeOk ns j) ∧ ∀ j, j < ns.length → NextOk ns j) := fun h => ⟨by simp, fun g => absurd (g.1 i (by omega) (by omega)) h⟩
  by_cases h0 : 0 < i
  ·by_cases a1 : (nd ns i).f0 < 0
   ·refine ⟨false, ev_off 1 ?_, bad fun h => by have := h h0; omega⟩
    simp only [tree_check.l0, rd_nd]
    exact po_ (po_ (po_ (po_ (ev_pos a1 (Ev.now _)))))
   by_cases a2 : (nd ns i).f0 ≥ (i : Int)
   ·refine ⟨false, ev_off 1 ?_, bad fun h => by have := h h0; omega⟩
    simp only [tree_check.l0, rd_nd]
    exact po_ (po_ (po_ (po_ (ev_neg a1 (ev_pos a2 (Ev.now _))))))
   by_cases a3 : (nd ns i).f2 < 0
   ·refine ⟨false, ev_off 1 ?_, bad fun h => by have := h h0; omega⟩
    simp only [tree_check.l0, rd_nd]
    exact po_ (po_ (po_ (po_ (ev_neg a1 (ev_neg a2 (ev_pos a3 (Ev.now _)))))))
   by_cases a4 : (nd ns i).f3 < 0
   ·refine ⟨false, ev_off 1 ?_, bad fun h => by have := h h0; omega⟩
    simp only [tree_check.l0, rd_nd]
    exact po_ (po_ (po_ (po_ (ev_neg a1 (ev_neg a2 (ev_neg a3 (ev_pos a4 (Ev.now _))))))))
   obtain ⟨b, h1, h2⟩ := ih (i + 1) (fl.set (nd ns i).f0.toNat true) (by omega) (by simpa using hf) (fun j hj => by
    rw [kid_succ, ← hk j hj, List.getD_eq_getElem?_getD, List.getElem?_set, List.getD_eq_getElem?_getD]
    by_cases hu : (nd ns i).f0.toNat = j
    ·rw [if_pos hu, if_pos (by omega)]
     simp only [Option.getD_some, true_iff]
     exact .inr ⟨h0, by omega⟩
    ·rw [if_neg hu]
     exact ⟨.inl, fun h => h.elim id fun h => absurd h.2 (by omega)⟩)
   refine ⟨b, ev_off 1 ?_, step b (fun _ => by omega) h2⟩
   simp only [tree_check.l0, rd_nd, e1]
   exact po_ (po_ (po_ (po_ (ev_neg a1 (ev_neg a2 (ev_neg a3 (ev_neg a4 (po_ (po_ h1)))))))))
  ·obtain ⟨b, h1, h2⟩ := ih (i + 1) fl (by omega) hf (fun j hj => by
    rw [kid_succ, ← hk j hj]
    exact ⟨.inl, fun h => h.elim id fun h => absurd h.1 h0⟩)
   refine ⟨b, ev_off 1 ?_, step b (fun h => absurd h h0) h2⟩
   simp only [tree_check.l0, rd_nd, e1]
   exact po_ (po_ (po_ (no_ h1)))
def RootOk (ns : List S69) : Prop := (nd ns 0).f0 = -1 ∧ (nd ns 0).f2 = 0 ∧ (nd ns 0).f3 = 0 ∧ (nd ns 0).f4.f0 = 0 ∧ (nd ns 0).f4.f1.toList = ([] : List UInt8) ∧ (nd ns 0).f4.f2.toList = ([] : List UInt8)
def RightP (ns : List S69) (c : Int) : Prop := (1 ≤ ns.length ∧ ns.length ≤ 1024 ∧ 0 ≤ c ∧ c < (ns.length : Int)) ∧ RootOk ns ∧ (∀ j, j < ns.length → NodeOk ns j) ∧ ∀ j, j < ns.length → NextOk ns j
theorem check_is (ns : List S69) (c : Int) : ∃ b, Ev (fun k => tree_check.f k ns c) b ∧ (b = true ↔ RightP ns c) := by
 have jt : Ev (fun k => tree_check.j0 k true ns c) false := by
  refine ev_off 1 ?_
  simp only [tree_check.j0]
  exact ev_pos trivial (Ev.now _)
 unfold tree_check.f
 by_cases h1 : (ns.length : Int) < 1
 ·exact ⟨false, ev_pos h1 jt, by simp; intro h; have := h.1; omega⟩
 by_cases h2 : (ns.length : Int) > 1024
 ·exact ⟨false, ev_neg h1 (ev_pos h2 jt), by simp; intro h; have := h.1; omega⟩
 by_cases h3 : 0 ≤ c ∧ c < (ns.length : Int)
 ·have h0 : ∀ x : Int, ((0 : Int) = x) = ((0 : Nat) = x) := fun _ => rfl
  have r0 : rd_T69 ns 0 = nd ns 0 := rfl
  by_cases h4 : RootOk ns
  ·obtain ⟨b, g1, g2⟩ := check_l0 ns c (by omega) ns.length 0 (List.replicate ns.length false) (by omega) (by simp) (fun j hj => by
    rw [List.getD_eq_getElem?_getD, List.getElem?_replicate, if_pos hj]
    simp only [Option.getD_some]
    exact ⟨by simp, fun ⟨m, _, h, _⟩ => by omega⟩)
   refine ⟨b, ev_neg h1 (ev_neg h2 ?_), ?_⟩
   ·simp only [has_is, Option.bind_some]
    rw [decide_eq_true h3]
    refine ev_off 1 ?_
    simp only [tree_check.j0, r0]
    obtain ⟨q0, q1, q2, q3, q4, q5⟩ := h4
    refine ns_ (po_ (ev_neg ?_ (po_ (po_ ?_))))
    ·rw [q0, q1, q2, q3, q4, q5]; decide
    ·simp only [Int.toNat_natCast]
     exact g1
   ·rw [g2]
    exact ⟨fun g => ⟨⟨by omega, by omega, h3⟩, h4, fun j hj => g.1 j (by omega) hj, g.2⟩, fun g => ⟨fun j _ hj => g.2.2.1 j hj, g.2.2.2⟩⟩
  ·refine ⟨false, ev_neg h1 (ev_neg h2 ?_), by simp; intro h; exact h4 h.2.1⟩
   simp only [has_is, Option.bind_some]
   rw [decide_eq_true h3]
   refine ev_off 1 ?_
   simp only [tree_check.j0, r0]
   refine ns_ (po_ (ev_pos ?_ (Ev.now _)))
   refine Classical.byContradiction fun hb => h4 ?_
   simp only [Bool.not_eq_true, Bool.or_eq_false_iff, Bool.not_eq_false', beq_iff_eq] at hb
   exact hb
 ·refine ⟨false, ev_neg h1 (ev_neg h2 ?_), by simp; intro h; exact h3 h.1.2.2⟩
  simp only [has_is, Option.bind_some]
  rw [decide_eq_false h3]
  exact jt
theorem open_is {ns : List S69} {c : Int} {b : Bool} (h : Ev (fun k => tree_check.f k ns c) b) : Ev (fun k => tree_open.f k ns c) (ns, c, b) := ev_bind h (Ev.now _)
def setNext (ns : List S69) (u : Nat) (x : Int) : List S69 := ns.set u ⟨(nd ns u).f0, x, (nd ns u).f2, (nd ns u).f3, (nd ns u).f4⟩
theorem setNext_length (ns : List S69) (u : Nat) (x : Int) : (setNext ns u x).length = ns.length := by simp [setNext]
theorem nd_setNext (ns : List S69) (u i : Nat) (x : Int) : nd (setNext ns u x) i = if u = i ∧ u < ns.length then ⟨(nd ns u).f0, x, (nd ns u).f2, (nd ns u).f3, (nd ns u).f4⟩ else nd ns i := by
 unfold setNext nd
 rw [List.getD_eq_getElem?_getD, List.getElem?_set]
 by_cases h : u = i
 ·subst h
  by_cases h2 : u < ns.length
  ·simp [h2]
  ·rw [if_pos rfl, if_neg h2, if_neg (by omega), List.getD_eq_getElem?_getD, List.getElem?_eq_none (by omega)]
 ·rw [if_neg h, if_neg (by omega), ← List.getD_eq_getElem?_getD]
theorem nd_setNext_up (ns : List S69) (u i : Nat) (x : Int) : (nd (setNext ns u x) i).f0 = (nd ns i).f0 := by
 rw [nd_setNext]; split
 ·rename_i h; rw [h.1]
 ·rfl
theorem copy_is (ns : List S69) (c : Int) (hn : ns.length ≤ 1100) : tree_book_copy.f ns c = some (ns, c) := by
 unfold tree_book_copy.f api_Node_97.f
 rw [if_pos (by omega)]; rfl
theorem right_up {ns : List S69} {c : Int} (h : RightP ns c) {j : Nat} (hj : j < ns.length) (h0 : 0 < j) : 0 ≤ (nd ns j).f0 ∧ (nd ns j).f0 < (j : Int) := ⟨(h.2.2.1 j hj h0).1, (h.2.2.1 j hj h0).2.1⟩
theorem right_len {ns : List S69} {c : Int} (h : RightP ns c) : 1 ≤ ns.length ∧ ns.length ≤ 1024 := ⟨h.1.1, h.1.2.1⟩
theorem right_cur {ns : List S69} {c : Int} (h : RightP ns c) : 0 ≤ c ∧ c < (ns.length : Int) := h.1.2.2
theorem right_next {ns : List S69} {c : Int} (h : RightP ns c) {j : Nat} (hj : j < ns.length) (h0 : (nd ns j).f1 ≠ -1) : 0 ≤ (nd ns j).f1 ∧ (nd ns j).f1 < (ns.length : Int) ∧ (nd ns (nd ns j).f1.toNat).f0 = (j : Int) ∧ Kid ns ns.length j := by
 obtain ⟨h1, h2⟩ := h.2.2.2 j hj
 by_cases hk : Kid ns ns.length j
 ·exact ⟨(h1 hk).1, (h1 hk).2.1, (h1 hk).2.2, hk⟩
 ·exact absurd (h2 hk) h0
theorem step_yes (ns : List S69) (c x told : Int) (b : Bool) (hn : ns.length ≤ 1100) (h : 0 ≤ x ∧ x < (ns.length : Int)) : tree_step.f ns c b x told = some (ns, x, told, true) := by
 unfold tree_step.f
 rw [copy_is ns c hn, Option.bind_some, has_is, Option.bind_some, decide_eq_true h]; rfl
theorem step_no (ns : List S69) (c x told : Int) (b : Bool) (hn : ns.length ≤ 1100) (h : ¬ (0 ≤ x ∧ x < (ns.length : Int))) : tree_step.f ns c b x told = some (ns, c, 0, false) := by
 unfold tree_step.f
 rw [copy_is ns c hn, Option.bind_some, has_is, Option.bind_some, decide_eq_false h]; rfl
/-- What going back tells. -/
def undoV (ns : List S69) (c : Int) : List S69 × Int × Int × Bool := if c = 0 then (ns, 0, 0, false) else (ns, (nd ns c.toNat).f0, c, true)
def redoV (ns : List S69) (c : Int) : List S69 × Int × Int × Bool := if (nd ns c.toNat).f1 = -1 then (ns, c, 0, false) else (ns, (nd ns c.toNat).f1, (nd ns c.toNat).f1, true)
theorem undo_no {ns : List S69} {c : Int} (h : Ev (fun k => tree_check.f k ns c) false) : Ev (fun k => tree_Undo.f k ns c) ([], 0, 0, false) := by
 unfold tree_Undo.f
 exact ev_bind (open_is h) (ns_ (Ev.now _))
theorem undo_yes {ns : List S69} {c : Int} (h : Ev (fun k => tree_check.f k ns c) true) (g : RightP ns c) : Ev (fun k => tree_Undo.f k ns c) (undoV ns c) := by
 have hl := right_len g
 have hc := right_cur g
 unfold tree_Undo.f undoV
 refine ev_bind (open_is h) (ev_pos rfl (ev_pos hc.1 (ev_pos hc.2 ?_)))
 have e2 : rd_T69 ns c = nd ns c.toNat := rfl
 by_cases h0 : c = 0
 ·rw [if_pos h0]
  have : (nd ns c.toNat).f0 = -1 := by rw [h0]; exact g.2.1.1
  simp only [e2]
  rw [step_no ns c _ _ _ (by omega) (by omega), h0]
  exact Ev.now _
 ·rw [if_neg h0]
  have := right_up g (j := c.toNat) (by omega) (by omega)
  simp only [e2]
  rw [step_yes ns c _ _ _ (by omega) (by omega)]
  exact Ev.now _
theorem redo_no {ns : List S69} {c : Int} (h : Ev (fun k => tree_check.f k ns c) false) : Ev (fun k => tree_Redo.f k ns c) ([], 0, 0, false) := by
 unfold tree_Redo.f
 exact ev_bind (open_is h) (ns_ (Ev.now _))
theorem redo_yes {ns : List S69} {c : Int} (h : Ev (fun k => tree_check.f k ns c) true) (g : RightP ns c) : Ev (fun k => tree_Redo.f k ns c) (redoV ns c) := by
 have hl := right_len g
 have hc := right_cur g
 unfold tree_Redo.f redoV
 refine ev_bind (open_is h) (ev_pos rfl (ev_pos hc.1 (ev_pos hc.2 ?_)))
 have e2 : rd_T69 ns c = nd ns c.toNat := rfl
 simp only [e2]
 by_cases h0 : (nd ns c.toNat).f1 = -1
 ·rw [if_pos h0, step_no ns c _ _ _ (by omega) (by omega)]
  exact Ev.now _
 ·have := right_next g (j := c.toNat) (by omega) h0
  rw [if_neg h0, step_yes ns c _ _ _ (by omega) ⟨this.1, this.2.1⟩]
  exact Ev.now _
theorem choose_no {ns : List S69} {c x : Int} (h : Ev (fun k => tree_check.f k ns c) false) : Ev (fun k => tree_Choose.f k ns c x) ([], 0, 1) := by
 unfold tree_Choose.f
 exact ev_bind (open_is h) (ns_ (Ev.now _))
theorem choose_none {ns : List S69} {c x : Int} (h : Ev (fun k => tree_check.f k ns c) true) (hx : ¬ (0 < x ∧ x < (ns.length : Int))) : Ev (fun k => tree_Choose.f k ns c x) ([], 0, 7) := by
 unfold tree_Choose.f
 refine ev_bind (open_is h) (ev_pos rfl ?_)
 simp only [has_is, Option.bind_some]
 by_cases h0 : x = 0
 ·by_cases h1 : 0 ≤ x ∧ x < (ns.length : Int)
  ·rw [decide_eq_true h1]; exact ev_pos rfl (ev_pos h0 (Ev.now _))
  ·rw [decide_eq_false h1]; exact ns_ (Ev.now _)
 ·rw [decide_eq_false (by omega)]; exact ns_ (Ev.now _)
theorem choose_yes {ns : List S69} {c x : Int} (h : Ev (fun k => tree_check.f k ns c) true) (g : RightP ns c) (hx : 0 < x ∧ x < (ns.length : Int)) : Ev (fun k => tree_Choose.f k ns c x) (setNext ns (nd ns x.toNat).f0.toNat x, c, 0) := by
 have hl := right_len g
 have hu := right_up g (j := x.toNat) (by omega) (by omega)
 have e2 : rd_T69 ns x = nd ns x.toNat := rfl
 have e3 : rd_T69 ns (nd ns x.toNat).f0 = nd ns (nd ns x.toNat).f0.toNat := rfl
 unfold tree_Choose.f
 refine ev_bind (open_is h) (ev_pos rfl ?_)
 simp only [has_is, copy_is ns c (by omega), Option.bind_some, e2, e3]
 rw [decide_eq_true (by omega)]
 exact ev_pos rfl (no_ (po_ (ev_pos hx.2 (ev_pos hu.1 (po_ (Ev.now _))))))
def ints (l : List Nat) : List Int := l.map (fun (n : Nat) => (n : Int))
theorem ints_length (l : List Nat) : (ints l).length = l.length := by simp [ints]
theorem ints_append (a b : List Nat) : ints (a ++ b) = ints a ++ ints b := by simp [ints]
theorem rd_ints (l : List Nat) (i : Nat) (h : i < l.length) : rd (ints l) (i : Int) = ((l[i] : Nat) : Int) := by simp [rd, ints, h]
/-- The way up from a node. -/
def ch (ns : List S69) (k : Nat) : List Nat := if h : 0 < k ∧ (nd ns k).f0.toNat < k then k :: ch ns (nd ns k).f0.toNat else [k]
termination_by k
decreasing_by exact h.2
theorem ch_zero (ns : List S69) : ch ns 0 = [0] := by rw [ch]; simp
theorem ch_pos {ns : List S69} {c : Int} (g : RightP ns c) {k : Nat} (hk : k < ns.length) (h0 : 0 < k) : ch ns k = k :: ch ns (nd ns k).f0.toNat := by
 have := right_up g hk h0
 rw [ch, dif_pos ⟨h0, by omega⟩]
theorem ch_le (ns : List S69) (k : Nat) : ∀ a, a ∈ ch ns k → a ≤ k := by
 induction k using Nat.strongRecOn with
 | ind k ih =>
  intro a h
  rw [ch] at h
  split at h
  ·rename_i hc
   rcases List.mem_cons.1 h with rfl | h
   ·omega
   ·have := ih _ hc.2 a h; omega
  ·rcases List.mem_cons.1 h with rfl | h
   ·omega
   ·simp at h
theorem ch_head (ns : List S69) (k : Nat) : ∃ T, ch ns k = k :: T := by
 rw [ch]; split
 ·exact ⟨_, rfl⟩
 ·exact ⟨_, rfl⟩
theorem ch_self (ns : List S69) (k : Nat) : k ∈ ch ns k := by
 obtain ⟨T, h⟩ := ch_head ns k
 rw [h]; exact List.mem_cons_self
theorem ch_length (ns : List S69) (k : Nat) : (ch ns k).length ≤ k + 1 := by
 induction k using Nat.strongRecOn with
 | ind k ih =>
  rw [ch]; split
  ·rename_i hc
   have := ih _ hc.2; simp only [List.length_cons]; omega
  ·simp
theorem ch_zero_mem {ns : List S69} {c : Int} (g : RightP ns c) (k : Nat) : k < ns.length → 0 ∈ ch ns k := by
 induction k using Nat.strongRecOn with
 | ind k ih =>
  intro hk
  by_cases h0 : 0 < k
  ·have := right_up g hk h0
   rw [ch_pos g hk h0]
   exact List.mem_cons_of_mem _ (ih _ (by omega) (by omega))
  ·obtain rfl : k = 0 := by omega
   rw [ch_zero]; simp
theorem ch_desc (ns : List S69) (k : Nat) : (ch ns k).Pairwise (· > ·) := by
 induction k using Nat.strongRecOn with
 | ind k ih =>
  rw [ch]; split
  ·rename_i hc
   refine List.pairwise_cons.2 ⟨fun a h => ?_, ih _ hc.2⟩
   have := ch_le ns _ a h; omega
  ·simp
theorem ch_suffix (ns : List S69) (k : Nat) : ∀ a, a ∈ ch ns k → ∃ A, ch ns k = A ++ ch ns a := by
 induction k using Nat.strongRecOn with
 | ind k ih =>
  intro a h
  by_cases e : a = k
  ·subst e; exact ⟨[], rfl⟩
  ·rw [ch] at h ⊢
   split at h
   ·rename_i hc
    rw [dif_pos hc]
    rcases List.mem_cons.1 h with h | h
    ·exact absurd h e
    ·obtain ⟨A, hA⟩ := ih _ hc.2 a h
     exact ⟨k :: A, by rw [hA]; rfl⟩
   ·rcases List.mem_cons.1 h with h | h
    ·exact absurd h e
    ·simp at h
theorem desc_tail {l : List Nat} (h : l.Pairwise (· > ·)) {A T : List Nat} {x : Nat} (e : l = A ++ x :: T) : T = l.filter (· < x) := by
 subst e
 rw [List.pairwise_append] at h
 obtain ⟨_, h2, h3⟩ := h
 rw [List.pairwise_cons] at h2
 rw [List.filter_append, List.filter_cons]
 have e1 : A.filter (· < x) = [] := by
  rw [List.filter_eq_nil_iff]
  intro a ha
  have := h3 a ha x List.mem_cons_self
  simp; omega
 rw [e1, if_neg (by simp), List.nil_append, List.filter_eq_self.2]
 intro a ha
 have := h2.1 a ha
 simpa using this
theorem ch_mem_below {ns : List S69} {k i j : Nat} (hi : i ∈ ch ns k) (hj : j ∈ ch ns k) (h : j ≤ i) : j ∈ ch ns i := by
 obtain ⟨A, hA⟩ := ch_suffix ns k i hi
 have hd := ch_desc ns k
 rw [hA, List.pairwise_append] at hd
 rw [hA] at hj
 rcases List.mem_append.1 hj with hj | hj
 ·have := hd.2.2 j hj i (ch_self ns i); omega
 ·exact hj
theorem asc_ext : ∀ {l m : List Nat}, l.Pairwise (· < ·) → m.Pairwise (· < ·) → (∀ a, a ∈ l ↔ a ∈ m) → l = m
 | [], [], _, _, _ => rfl
 | [], b :: m, _, _, h => absurd ((h b).2 List.mem_cons_self) (by simp)
 | a :: l, [], _, _, h => absurd ((h a).1 List.mem_cons_self) (by simp)
 | a :: l, b :: m, hl, hm, h => by
  rw [List.pairwise_cons] at hl hm
  have e : a = b := by
   have h1 := (h a).1 List.mem_cons_self
   have h2 := (h b).2 List.mem_cons_self
   rcases List.mem_cons.1 h1 with h1 | h1
   ·exact h1
   ·rcases List.mem_cons.1 h2 with h2 | h2
    ·exact h2.symm
    ·have := hl.1 b h2; have := hm.1 a h1; omega
  subst e
  rw [asc_ext hl.2 hm.2 (fun x => ?_)]
  have hx := h x
  rw [List.mem_cons, List.mem_cons] at hx
  constructor
  ·intro hm1
   have := hl.1 x hm1
   rcases hx.1 (.inr hm1) with e | e
   ·omega
   ·exact e
  ·intro hm1
   have := hm.1 x hm1
   rcases hx.2 (.inr hm1) with e | e
   ·omega
   ·exact e
/-- The numbers below n of which p is true. -/
def upV (p : Nat → Bool) : Nat → List Nat
 | 0 => []
 | n + 1 => upV p n ++ (if p n then [n] else [])
theorem mem_upV (p : Nat → Bool) (a : Nat) : ∀ n, a ∈ upV p n ↔ a < n ∧ p a = true
 | 0 => by simp [upV]
 | n + 1 => by
  rw [upV, List.mem_append, mem_upV p a n]
  by_cases hp : p n = true
  ·rw [if_pos hp, List.mem_singleton]
   constructor
   ·rintro (⟨h1, h2⟩ | rfl)
    ·exact ⟨by omega, h2⟩
    ·exact ⟨by omega, hp⟩
   ·rintro ⟨h1, h2⟩
    by_cases e : a = n
    ·exact .inr e
    ·exact .inl ⟨by omega, h2⟩
  ·rw [if_neg hp]
   constructor
   ·rintro (⟨h1, h2⟩ | h)
    ·exact ⟨by omega, h2⟩
    ·simp at h
   ·rintro ⟨h1, h2⟩
    have : a ≠ n := fun e => hp (e ▸ h2)
    exact .inl ⟨by omega, h2⟩
theorem upV_length (p : Nat → Bool) : ∀ n, (upV p n).length ≤ n
 | 0 => by simp [upV]
 | n + 1 => by have := upV_length p n; rw [upV, List.length_append]; split <;> simp <;> omega
theorem upV_asc (p : Nat → Bool) : ∀ n, (upV p n).Pairwise (· < ·)
 | 0 => by simp [upV]
 | n + 1 => by
  rw [upV, List.pairwise_append]
  refine ⟨upV_asc p n, by split <;> simp, fun a ha b hb => ?_⟩
  have := ((mem_upV p a n).1 ha).1
  split at hb
  ·simp at hb; omega
  ·simp at hb
theorem up_l0 {ns : List S69} {c : Int} (g : RightP ns c) (k : Nat) : ∀ acc : List Int, acc.length + k ≤ 2000 → k < ns.length → Ev (fun n => tree_book_up.l0 n (k : Int) acc ns c) (acc ++ ints (ch ns k)) := by
 have hl := right_len g
 induction k using Nat.strongRecOn with
 | ind k ih =>
  intro acc ha hk
  refine ev_off 1 ?_
  simp only [tree_book_up.l0, rd_nd]
  refine po_ (po_ (po_ (po_ ?_)))
  by_cases h0 : 0 < k
  ·have hu := right_up g hk h0
   have h := ih (nd ns k).f0.toNat (by omega) (acc ++ [(k : Int)]) (by simp; omega) (by omega)
   rw [Int.toNat_of_nonneg hu.1] at h
   rw [ch_pos g hk h0]
   simpa [ints] using h
  ·obtain rfl : k = 0 := by omega
   rw [g.2.1.1, ch_zero]
   refine ev_off 1 ?_
   simp only [tree_book_up.l0]
   exact no_ (Ev.now _)
theorem up_is {ns : List S69} {c : Int} (g : RightP ns c) (k : Nat) (hk : k < ns.length) : Ev (fun n => tree_book_up.f n ns c (k : Int)) (ints (ch ns k)) := by
 have hl := right_len g
 exact up_l0 g k [] (by simp; omega) hk
theorem reverse_l0 (l : List Int) (hl : l.length ≤ 100000) (d : Nat) : ∀ (i : Nat) (x : List Int), l.length ≤ 2 * i + d → x.length = l.length → (∀ t, t < l.length → x.getD t 0 = if t < i ∨ l.length ≤ t + i then l.getD (l.length - 1 - t) 0 else l.getD t 0) →
  Ev (fun k => slices_Reverse_int_int.l0 k x (i : Int) ((l.length : Int) - 1 - (i : Int))) l.reverse := by
 have fin : ∀ (i : Nat) (x : List Int), l.length ≤ 2 * i + 1 → x.length = l.length → (∀ t, t < l.length → x.getD t 0 = if t < i ∨ l.length ≤ t + i then l.getD (l.length - 1 - t) 0 else l.getD t 0) → x = l.reverse := by
  intro i x h1 h2 h3
  refine List.ext_getElem (by simpa using h2) fun t ht1 ht2 => ?_
  have h := h3 t (by omega)
  rw [List.getD_eq_getElem?_getD, List.getElem?_eq_getElem ht1, Option.getD_some] at h
  rw [h, List.getElem_reverse]
  split
  ·rw [List.getD_eq_getElem?_getD, List.getElem?_eq_getElem (by omega), Option.getD_some]
  ·rw [List.getD_eq_getElem?_getD, List.getElem?_eq_getElem (by omega), Option.getD_some]
   congr 1; omega
 induction d with
 | zero =>
  intro i x h1 h2 h3
  refine ev_off 1 ?_
  simp only [slices_Reverse_int_int.l0]
  rw [← fin i x (by omega) h2 h3]
  exact no_ (Ev.now _)
 | succ d ih =>
  intro i x h1 h2 h3
  by_cases hij : (i : Int) < (l.length : Int) - 1 - (i : Int)
  ·have e1 : wrap64 ((i : Int) + 1) = ((i + 1 : Nat) : Int) := by rw [wrap_id (by omega) (by omega)]; rfl
   have e2 : wrap64 ((l.length : Int) - 1 - (i : Int) - 1) = (l.length : Int) - 1 - ((i + 1 : Nat) : Int) := by rw [wrap_id (by omega) (by omega)]; omega
   have e3 : ((l.length : Int) - 1 - (i : Int)).toNat = l.length - 1 - i := by omega
   refine ev_off 1 ?_
   simp only [slices_Reverse_int_int.l0, e1, e2]
   refine ev_pos hij (po_ (po_ (po_ (po_ ?_))))
   refine ih (i + 1) _ (by omega) (by simpa using h2) fun t ht => ?_
   rw [e3, Int.toNat_natCast, List.getD_eq_getElem?_getD, List.getElem?_set]
   have q1 : rd x ((l.length : Int) - 1 - (i : Int)) = l.getD (l.length - 1 - i) 0 := by
    have := h3 (l.length - 1 - i) (by omega)
    rw [if_neg (by omega)] at this
    rw [← this]; unfold rd; rw [e3]
   have q2 : rd x (i : Int) = l.getD i 0 := by
    have := h3 i (by omega)
    rw [if_neg (by omega)] at this
    rw [← this]; unfold rd; rw [Int.toNat_natCast]
   by_cases t1 : l.length - 1 - i = t
   ·rw [if_pos t1, if_pos (by simp; omega), if_pos (by omega), Option.getD_some, q2]
    congr 1; omega
   ·rw [if_neg t1, List.getElem?_set]
    by_cases t2 : i = t
    ·rw [if_pos t2, if_pos (by omega), if_pos (by omega), Option.getD_some, q1]
     congr 1; omega
    ·rw [if_neg t2, ← List.getD_eq_getElem?_getD, h3 t ht]
     by_cases t3 : t < i ∨ l.length ≤ t + i
     ·rw [if_pos t3, if_pos (by omega)]
     ·rw [if_neg t3, if_neg (by omega)]
  ·refine ev_off 1 ?_
   simp only [slices_Reverse_int_int.l0]
   rw [← fin i x (by omega) h2 h3]
   exact ev_neg hij (Ev.now _)
theorem reverse_is (l : List Int) (hl : l.length ≤ 100000) : Ev (fun k => slices_Reverse_int_int.f k l) l.reverse := by
 have h := reverse_l0 l hl l.length 0 l (by omega) rfl (fun t ht => by rw [if_neg (by omega)])
 have e1 : wrap64 ((l.length : Int) - 1) = (l.length : Int) - 1 - ((0 : Nat) : Int) := by rw [wrap_id (by omega) (by omega)]; omega
 unfold slices_Reverse_int_int.f
 rw [e1]
 exact h
theorem path_l0 (n : Nat) : ∀ L1 L2 : List Nat, L1.length = n → L1.length ≤ 1100 → L2.length ≤ 1100 →
  ∃ A B S, L1 = A ++ S ∧ L2 = B ++ S ∧ (∀ A' B' x, ¬ (A = A' ++ [x] ∧ B = B' ++ [x])) ∧ Ev (fun k => tree_Path.l0 k (ints L1) (ints L2)) (ints A, ints B.reverse, 0) := by
 have er : ∀ L : List Nat, (ints L).reverse = ints L.reverse := fun L => by simp [ints]
 have rv : ∀ L1 L2 : List Nat, L2.length ≤ 1100 → Ev (fun k => (slices_Reverse_int_int.f k (ints L2)).bind fun t => some (ints L1, t, (0 : Int))) (ints L1, ints L2.reverse, 0) := fun L1 L2 h => by
  rw [← er]
  exact ev_bind (reverse_is (ints L2) (by rw [ints_length]; omega)) (Ev.now _)
 induction n with
 | zero =>
  intro L1 L2 h1 h2 h3
  obtain rfl : L1 = [] := List.length_eq_zero_iff.1 h1
  refine ⟨[], L2, [], rfl, by simp, by simp, ev_off 1 ?_⟩
  simp only [tree_Path.l0]
  exact ev_neg (by simp [ints]) (rv [] L2 h3)
 | succ n ih =>
  intro L1 L2 h1 h2 h3
  rcases List.eq_nil_or_concat L1 with rfl | ⟨X, x, rfl⟩
  ·simp at h1
  rcases List.eq_nil_or_concat L2 with rfl | ⟨Y, y, rfl⟩
  ·refine ⟨X.concat x, [], [], by simp, rfl, by simp, ev_off 1 ?_⟩
   simp only [tree_Path.l0]
   exact ev_pos (by rw [ints_length]; omega) (ev_neg (by simp [ints]) (rv _ [] (by simp)))
  rw [List.concat_eq_append, List.concat_eq_append] at *
  rw [List.length_append, List.length_singleton] at h1 h2 h3
  have e1 : wrap64 (((ints (X ++ [x])).length : Int) - 1) = (X.length : Int) := by rw [ints_length, List.length_append, List.length_singleton, wrap_id (by omega) (by omega)]; omega
  have e2 : wrap64 (((ints (Y ++ [y])).length : Int) - 1) = (Y.length : Int) := by rw [ints_length, List.length_append, List.length_singleton, wrap_id (by omega) (by omega)]; omega
  have l1 : (ints (X ++ [x])).length = X.length + 1 := by rw [ints_length]; simp
  have l2 : (ints (Y ++ [y])).length = Y.length + 1 := by rw [ints_length]; simp
  have r1 : rd (ints (X ++ [x])) (X.length : Int) = (x : Int) := by rw [rd_ints _ _ (by simp)]; simp
  have r2 : rd (ints (Y ++ [y])) (Y.length : Int) = (y : Int) := by rw [rd_ints _ _ (by simp)]; simp
  have t1 : (ints (X ++ [x])).take X.length = ints X := by simp [ints]
  have t2 : (ints (Y ++ [y])).take Y.length = ints Y := by simp [ints]
  by_cases hxy : x = y
  ·subst hxy
   obtain ⟨A, B, S, a1, a2, a3, a4⟩ := ih X Y (by omega) (by omega) (by omega)
   refine ⟨A, B, S ++ [x], by rw [a1, List.append_assoc], by rw [a2, List.append_assoc], a3, ev_off 1 ?_⟩
   simp only [tree_Path.l0, e1, e2, r1, r2, Int.toNat_natCast, t1, t2]
   exact po_ (po_ (po_ (po_ (po_ (po_ (ev_pos trivial (po_ (po_ a4))))))))
  ·refine ⟨X ++ [x], Y ++ [y], [], by simp, by simp, fun A' B' z ⟨q1, q2⟩ => ?_, ev_off 1 ?_⟩
   ·have := (List.append_inj_right' q1 rfl); have := (List.append_inj_right' q2 rfl); simp_all
   ·simp only [tree_Path.l0, e1, e2, r1, r2]
    exact po_ (po_ (po_ (po_ (po_ (po_ (no_ (rv _ _ (by simp; omega))))))))
/-- What stands ahead of the common end of two ways up: what is on one alone. -/
theorem strip_mem {ns : List S69} {k j : Nat} {A B S : List Nat} (h1 : ch ns k = A ++ S) (h2 : ch ns j = B ++ S) (h3 : ∀ A' B' x, ¬ (A = A' ++ [x] ∧ B = B' ++ [x])) (x : Nat) : x ∈ A ↔ x ∈ ch ns k ∧ x ∉ ch ns j := by
 have d1 := ch_desc ns k
 have d2 := ch_desc ns j
 constructor
 ·intro hx
  refine ⟨by rw [h1]; exact List.mem_append_left _ hx, fun hj => ?_⟩
  have hS : x ∉ S := fun hs => by
   rw [h1, List.pairwise_append] at d1
   have := d1.2.2 x hx x hs; omega
  have hB : x ∈ B := by
   rw [h2] at hj
   exact (List.mem_append.1 hj).elim id fun h => absurd h hS
  obtain ⟨A1, A2, rfl⟩ := List.append_of_mem hx
  obtain ⟨B1, B2, rfl⟩ := List.append_of_mem hB
  obtain ⟨P, hP⟩ := ch_suffix ns k x (by rw [h1]; exact List.mem_append_left _ hx)
  obtain ⟨Q, hQ⟩ := ch_suffix ns j x hj
  obtain ⟨T, hT⟩ := ch_head ns x
  have f1 := desc_tail d1 (show ch ns k = A1 ++ x :: (A2 ++ S) by rw [h1]; simp)
  have f2 := desc_tail d1 (show ch ns k = P ++ x :: T by rw [hP, hT])
  have f3 := desc_tail d2 (show ch ns j = B1 ++ x :: (B2 ++ S) by rw [h2]; simp)
  have f4 := desc_tail d2 (show ch ns j = Q ++ x :: T by rw [hQ, hT])
  have e : A2 = B2 := by
   have : A2 ++ S = B2 ++ S := by rw [f1, ← f2, f4, ← f3]
   exact List.append_cancel_right this
  subst e
  rcases List.eq_nil_or_concat A2 with rfl | ⟨Z, z, rfl⟩
  ·exact h3 A1 B1 x ⟨rfl, rfl⟩
  ·exact h3 (A1 ++ x :: Z) (B1 ++ x :: Z) z ⟨by simp, by simp⟩
 ·rintro ⟨hk, hj⟩
  rw [h1] at hk
  rcases List.mem_append.1 hk with h | h
  ·exact h
  ·exact absurd (by rw [h2]; exact List.mem_append_right _ h) hj
def backP (ns : List S69) (c k : Nat) (i : Nat) : Bool := decide (i ∈ ch ns c) && !decide (i ∈ ch ns k)
theorem asc_of_desc {A : List Nat} (h : A.Pairwise (· > ·)) : A.reverse.Pairwise (· < ·) := by
 rw [List.pairwise_reverse]; exact h
theorem strip_is {ns : List S69} {k j n : Nat} {A B S : List Nat} (hk : k < n) (h1 : ch ns k = A ++ S) (h2 : ch ns j = B ++ S) (h3 : ∀ A' B' x, ¬ (A = A' ++ [x] ∧ B = B' ++ [x])) : A.reverse = upV (backP ns k j) n := by
 have d1 := ch_desc ns k
 rw [h1, List.pairwise_append] at d1
 refine asc_ext (asc_of_desc d1.1) (upV_asc _ _) fun x => ?_
 rw [List.mem_reverse, strip_mem h1 h2 h3, mem_upV]
 unfold backP
 constructor
 ·rintro ⟨q1, q2⟩
  have := ch_le ns k x q1
  exact ⟨by omega, by simp [q1, q2]⟩
 ·rintro ⟨q1, q2⟩
  simpa using q2
def pathV (ns : List S69) (c k : Nat) : List Int × List Int × Int := (ints (upV (backP ns c k) ns.length).reverse, ints (upV (backP ns k c) ns.length), 0)
theorem path_yes {ns : List S69} {c : Nat} (h : Ev (fun n => tree_check.f n ns (c : Int)) true) (g : RightP ns (c : Int)) (k : Nat) (hk : k < ns.length) : Ev (fun n => tree_Path.f n ns (c : Int) (k : Int)) (pathV ns c k) := by
 have hl := right_len g
 have hc := right_cur g
 have l1 := ch_length ns c
 have l2 := ch_length ns k
 obtain ⟨A, B, S, a1, a2, a3, a4⟩ := path_l0 _ (ch ns c) (ch ns k) rfl (by omega) (by omega)
 have b1 := strip_is (n := ns.length) (by omega) a1 a2 a3
 have b2 := strip_is (n := ns.length) hk a2 a1 (fun A' B' x h => a3 B' A' x ⟨h.2, h.1⟩)
 unfold tree_Path.f pathV
 refine ev_bind (open_is h) (ev_pos rfl ?_)
 simp only [has_is, Option.bind_some]
 rw [decide_eq_true (by omega), ← b1, ← b2, List.reverse_reverse]
 exact ev_pos rfl (ev_bind (up_is g c (by omega)) (ev_bind (up_is g k hk) a4))
theorem path_no {ns : List S69} {c x : Int} (h : Ev (fun k => tree_check.f k ns c) false) : Ev (fun k => tree_Path.f k ns c x) ([], [], 1) := by
 unfold tree_Path.f
 exact ev_bind (open_is h) (ns_ (Ev.now _))
theorem path_none {ns : List S69} {c x : Int} (h : Ev (fun k => tree_check.f k ns c) true) (hx : ¬ (0 ≤ x ∧ x < (ns.length : Int))) : Ev (fun k => tree_Path.f k ns c x) ([], [], 7) := by
 unfold tree_Path.f
 refine ev_bind (open_is h) (ev_pos rfl ?_)
 simp only [has_is, Option.bind_some]
 rw [decide_eq_false hx]
 exact ns_ (Ev.now _)
/-- Nodes are made the next ones of their ups, one by one. -/
def turnOne (ns : List S69) (i : Nat) : List S69 := if 0 < i then setNext ns (nd ns i).f0.toNat (i : Int) else ns
def turnTo (ns : List S69) (W : List Nat) : List S69 := W.foldl turnOne ns
theorem turnOne_length (ns : List S69) (i : Nat) : (turnOne ns i).length = ns.length := by unfold turnOne; split <;> simp [setNext_length]
theorem turnOne_up (ns : List S69) (i j : Nat) : (nd (turnOne ns i) j).f0 = (nd ns j).f0 := by unfold turnOne; split <;> simp [nd_setNext_up]
theorem turnTo_length (W : List Nat) : ∀ ns, (turnTo ns W).length = ns.length := by
 induction W with
 | nil => intro ns; rfl
 | cons i W ih => intro ns; show (turnTo (turnOne ns i) W).length = _; rw [ih, turnOne_length]
theorem turnTo_up (W : List Nat) (j : Nat) : ∀ ns, (nd (turnTo ns W) j).f0 = (nd ns j).f0 := by
 induction W with
 | nil => intro ns; rfl
 | cons i W ih => intro ns; show (nd (turnTo (turnOne ns i) W) j).f0 = _; rw [ih, turnOne_up]
theorem turnTo_out (W : List Nat) (j : Nat) : ∀ ns, (∀ i ∈ W, 0 < i → (nd ns i).f0.toNat ≠ j) → nd (turnTo ns W) j = nd ns j := by
 induction W with
 | nil => intro ns _; rfl
 | cons i W ih =>
  intro ns h
  show nd (turnTo (turnOne ns i) W) j = _
  rw [ih]
  ·unfold turnOne; split
   ·rename_i h0
    rw [nd_setNext, if_neg]
    exact fun q => h i List.mem_cons_self h0 q.1
   ·rfl
  ·intro a ha h0; rw [turnOne_up]; exact h a (List.mem_cons_of_mem _ ha) h0
theorem turnTo_in (W : List Nat) (a : Nat) (h0 : 0 < a) : ∀ ns, a ∈ W → (nd ns a).f0.toNat < ns.length → (∀ i ∈ W, i ≠ a → 0 < i → (nd ns i).f0.toNat ≠ (nd ns a).f0.toNat) →
  nd (turnTo ns W) (nd ns a).f0.toNat = ⟨(nd ns (nd ns a).f0.toNat).f0, (a : Int), (nd ns (nd ns a).f0.toNat).f2, (nd ns (nd ns a).f0.toNat).f3, (nd ns (nd ns a).f0.toNat).f4⟩ := by
 induction W with
 | nil => intro ns h; simp at h
 | cons i W ih =>
  intro ns h hl hd
  show nd (turnTo (turnOne ns i) W) _ = _
  by_cases ha : a ∈ W
  ·have h1 := ih (turnOne ns i) ha (by rw [turnOne_up, turnOne_length]; exact hl) (fun b hb hn hb0 => by rw [turnOne_up, turnOne_up]; exact hd b (List.mem_cons_of_mem _ hb) hn hb0)
   rw [turnOne_up] at h1
   rw [h1]
   by_cases hi : i = a
   ·subst hi
    unfold turnOne
    rw [if_pos h0, nd_setNext, if_pos ⟨rfl, hl⟩]
   ·have : nd (turnOne ns i) (nd ns a).f0.toNat = nd ns (nd ns a).f0.toNat := by
     unfold turnOne; split
     ·rename_i hi0
      rw [nd_setNext, if_neg]
      exact fun q => hd i List.mem_cons_self hi hi0 q.1
     ·rfl
    rw [this]
  ·have hi : a = i := (List.mem_cons.1 h).elim id fun h => absurd h ha
   subst hi
   have e : turnOne ns a = setNext ns (nd ns a).f0.toNat (a : Int) := by unfold turnOne; rw [if_pos h0]
   rw [turnTo_out, e, nd_setNext, if_pos ⟨rfl, hl⟩]
   intro b hb hb0
   rw [turnOne_up]
   exact hd b (List.mem_cons_of_mem _ hb) (fun e => ha (e ▸ hb)) hb0
theorem nd_ext {l m : List S69} (h : l.length = m.length) (hn : ∀ j, j < l.length → nd l j = nd m j) : l = m := by
 refine List.ext_getElem h fun j h1 h2 => ?_
 have := hn j h1
 unfold nd at this
 rw [List.getD_eq_getElem?_getD, List.getD_eq_getElem?_getD, List.getElem?_eq_getElem h1, List.getElem?_eq_getElem h2] at this
 simpa using this
/-- The order does not matter, where the ups are different ones. -/
theorem turnTo_same {ns : List S69} {W V : List Nat} (hW : ∀ i ∈ W, 0 < i → (nd ns i).f0.toNat < ns.length) (hd : ∀ i ∈ W, ∀ j ∈ W, 0 < i → 0 < j → i ≠ j → (nd ns i).f0.toNat ≠ (nd ns j).f0.toNat) (hV : ∀ i, 0 < i → (i ∈ W ↔ i ∈ V)) : turnTo ns W = turnTo ns V := by
 refine nd_ext (by rw [turnTo_length, turnTo_length]) fun j hj => ?_
 by_cases h : ∃ i ∈ W, 0 < i ∧ (nd ns i).f0.toNat = j
 ·obtain ⟨i, hi, h0, rfl⟩ := h
  rw [turnTo_in W i h0 ns hi (hW i hi h0) (fun b hb hn hb0 => hd b hb i hi hb0 h0 hn), turnTo_in V i h0 ns ((hV i h0).1 hi) (hW i hi h0) (fun b hb hn hb0 => hd b ((hV b hb0).2 hb) i hi hb0 h0 hn)]
 ·rw [turnTo_out W j ns (fun i hi h0 e => h ⟨i, hi, h0, e⟩), turnTo_out V j ns (fun i hi h0 e => h ⟨i, (hV i h0).2 hi, h0, e⟩)]
theorem ch_ups {ns : List S69} {c : Int} (g : RightP ns c) {k : Nat} (hk : k < ns.length) : ∀ i ∈ ch ns k, ∀ j ∈ ch ns k, 0 < i → 0 < j → i ≠ j → (nd ns i).f0.toNat ≠ (nd ns j).f0.toNat := by
 have key : ∀ i ∈ ch ns k, ∀ j ∈ ch ns k, 0 < i → 0 < j → j < i → (nd ns i).f0.toNat ≠ (nd ns j).f0.toNat := by
  intro i hi j hj h0 h1 h
  have li := ch_le ns k i hi
  have hm := ch_mem_below hi hj (by omega)
  rw [ch_pos g (by omega) h0, List.mem_cons] at hm
  have := hm.elim (fun h => by omega) id
  have := ch_le ns _ j this
  have := right_up g (j := j) (by omega) h1
  omega
 intro i hi j hj h0 h1 hn
 rcases Nat.lt_or_ge j i with h | h
 ·exact key i hi j hj h0 h1 h
 ·exact (key j hj i hi h1 h0 (by omega)).symm
theorem to_l0 {ns : List S69} {c : Int} (g : RightP ns c) (x v : Int) (L : List Nat) (hL : ∀ i ∈ L, i < ns.length) (hll : L.length ≤ 2000) (d : Nat) : ∀ (i : Nat) (m : List S69), i + d = L.length → m.length = ns.length → (∀ j, (nd m j).f0 = (nd ns j).f0) →
  Ev (fun k => tree_To.l0 k x (ints L) (L.length : Int) (i : Int) m v) (turnTo m (L.drop i), x, 0) := by
 have hl := right_len g
 induction d with
 | zero =>
  intro i m hi hm hu
  rw [List.drop_of_length_le (by omega)]
  refine ev_off 1 ?_
  simp only [tree_To.l0]
  exact no_ (Ev.now _)
 | succ d ih =>
  intro i m hi hm hu
  have e1 : wrap64 ((i : Int) + 1) = ((i + 1 : Nat) : Int) := by rw [wrap_id (by omega) (by omega)]; rfl
  have hil : i < L.length := by omega
  have r1 := rd_ints L i hil
  have hLi := hL _ (List.getElem_mem hil)
  have ll := ints_length L
  rw [List.drop_eq_getElem_cons hil]
  show Ev _ (turnTo (turnOne m L[i]) (L.drop (i + 1)), x, 0)
  have h := ih (i + 1) (turnOne m L[i]) (by omega) (by rw [turnOne_length, hm]) (fun j => by rw [turnOne_up, hu])
  refine ev_off 1 ?_
  simp only [tree_To.l0, e1, r1, rd_nd]
  refine po_ (po_ (po_ ?_))
  by_cases h0 : 0 < L[i]
  ·have hup := right_up g hLi h0
   rw [← hu] at hup
   have e2 : rd_T69 m (nd m L[i]).f0 = nd m (nd m L[i]).f0.toNat := rfl
   have e : turnOne m L[i] = setNext m (nd m L[i]).f0.toNat (L[i] : Int) := by unfold turnOne; rw [if_pos h0]
   rw [e] at h ⊢
   simp only [e2]
   exact po_ (po_ (po_ (ev_pos hup.1 (po_ h))))
  ·have e : turnOne m L[i] = m := by unfold turnOne; rw [if_neg h0]
   rw [e] at h ⊢
   exact no_ h
def toV (ns : List S69) (k : Nat) : List S69 × Int × Int := (turnTo ns (ch ns k), (k : Int), 0)
theorem to_yes {ns : List S69} {c : Nat} (h : Ev (fun n => tree_check.f n ns (c : Int)) true) (g : RightP ns (c : Int)) (k : Nat) (hk : k < ns.length) : Ev (fun n => tree_To.f n ns (c : Int) (k : Int)) (toV ns k) := by
 have hl := right_len g
 have hcl := ch_length ns k
 unfold tree_To.f toV
 refine ev_bind (path_yes h g k hk) (ev_pos rfl (ev_bind (open_is h) ?_))
 simp only [copy_is ns (c : Int) (by omega), Option.bind_some]
 refine ev_bind (up_is g k hk) ?_
 rw [ints_length]
 exact to_l0 g k c (ch ns k) (fun i hi => by have := ch_le ns k i hi; omega) (by omega) (ch ns k).length 0 ns (by omega) rfl (fun _ => rfl)
theorem to_no {ns : List S69} {c x : Int} (h : Ev (fun k => tree_check.f k ns c) false) : Ev (fun k => tree_To.f k ns c x) ([], 0, 1) := by
 unfold tree_To.f
 exact ev_bind (path_no h) (ns_ (Ev.now _))
theorem to_none {ns : List S69} {c x : Int} (h : Ev (fun k => tree_check.f k ns c) true) (hx : ¬ (0 ≤ x ∧ x < (ns.length : Int))) : Ev (fun k => tree_To.f k ns c x) ([], 0, 7) := by
 unfold tree_To.f
 exact ev_bind (path_none h hx) (ns_ (Ev.now _))
theorem same83_l0 (ns : List S69) (hn : ns.length ≤ 1000000000000) (d : Nat) : ∀ i : Nat, i + d = ns.length → Ev (fun k => api_Node_83.l0 k ns ns (ns.length : Int) (i : Int)) true := by
 induction d with
 | zero =>
  intro i hi
  refine ev_off 1 ?_
  simp only [api_Node_83.l0]
  exact ev_neg (by omega) (Ev.now _)
 | succ d ih =>
  intro i hi
  refine ev_off 1 ?_
  simp only [api_Node_83.l0]
  have e1 : wrap64 ((i : Int) + 1) = ((i + 1 : Nat) : Int) := by rw [wrap_id (by omega) (by omega)]; rfl
  rw [e1]
  exact ev_pos (by omega) (ev_pos (by omega) (ev_pos (by omega) (ev_pos (by omega) (ev_neg (by simp) (ih (i + 1) (by omega))))))
theorem same_refl (ns : List S69) (c : Int) (hn : ns.length ≤ 1000000000000) : Ev (fun k => tree_Same.f k ns c ns c) true := by
 unfold tree_Same.f api_Node_83.f
 exact ev_pos rfl (ev_bind (ev_pos rfl (same83_l0 ns hn ns.length 0 (by omega))) (Ev.now _))
theorem check_true {ns : List S69} {c : Int} (g : RightP ns c) : Ev (fun k => tree_check.f k ns c) true := by
 obtain ⟨b, hb, hi⟩ := check_is ns c
 rw [hi.2 g] at hb
 exact hb
theorem right_true {ns : List S69} {c : Int} (g : RightP ns c) : Ev (fun k => tree_Right.f k ns c) true := ev_bind (open_is (check_true g)) (Ev.now _)
/-- Other choices of what is next, kids all: such a tree may be, too. -/
theorem right_turn {ns m : List S69} {c c' : Int} (g : RightP ns c) (hl : m.length = ns.length) (h0 : ∀ j, j < ns.length → (nd m j).f0 = (nd ns j).f0 ∧ (nd m j).f2 = (nd ns j).f2 ∧ (nd m j).f3 = (nd ns j).f3 ∧ (nd m j).f4 = (nd ns j).f4)
  (h1 : ∀ j, j < ns.length → (nd m j).f1 = (nd ns j).f1 ∨ ∃ i : Nat, 0 < i ∧ i < ns.length ∧ (nd ns i).f0 = (j : Int) ∧ (nd m j).f1 = (i : Int)) (hc : 0 ≤ c' ∧ c' < (ns.length : Int)) : RightP m c' := by
 have hlen := right_len g
 have kid : ∀ j, Kid m m.length j ↔ Kid ns ns.length j := by
  intro j
  rw [hl]
  constructor
  ·rintro ⟨i, a, b, e⟩
   exact ⟨i, a, b, by rw [← (h0 i b).1]; exact e⟩
  ·rintro ⟨i, a, b, e⟩
   exact ⟨i, a, b, by rw [(h0 i b).1]; exact e⟩
 obtain ⟨q1, q2, q3, q4⟩ := g
 refine ⟨⟨by omega, by omega, hc.1, by omega⟩, ?_, ?_, ?_⟩
 ·obtain ⟨a, b, c, d⟩ := h0 0 (by omega)
  unfold RootOk at *
  rw [a, b, c, d]
  exact q2
 ·intro j hj
  rw [hl] at hj
  obtain ⟨a, b, c, d⟩ := h0 j hj
  have := q3 j hj
  unfold NodeOk at *
  rw [a, b, c]
  exact this
 ·intro j hj
  rw [hl] at hj
  obtain ⟨p1, p2⟩ := q4 j hj
  unfold NextOk
  rw [kid j, hl]
  refine ⟨fun hk => ?_, fun hk => ?_⟩
  ·rcases h1 j hj with e | ⟨i, i0, i1, e1, e2⟩
   ·rw [e]
    obtain ⟨x1, x2, x3⟩ := p1 hk
    refine ⟨x1, x2, ?_⟩
    rw [(h0 _ (by omega)).1]
    exact x3
   ·rw [e2]
    refine ⟨by omega, by omega, ?_⟩
    rw [Int.toNat_natCast, (h0 i i1).1, e1]
  ·rcases h1 j hj with e | ⟨i, i0, i1, e1, e2⟩
   ·rw [e]; exact p2 hk
   ·exact absurd ⟨i, i0, i1, e1⟩ hk
theorem right_move {ns : List S69} {c c' : Int} (g : RightP ns c) (hc : 0 ≤ c' ∧ c' < (ns.length : Int)) : RightP ns c' :=
 right_turn g rfl (fun _ _ => ⟨rfl, rfl, rfl, rfl⟩) (fun _ _ => Or.inl rfl) hc
theorem right_setNext {ns : List S69} {c c' : Int} (g : RightP ns c) {x : Nat} (h0 : 0 < x) (hx : x < ns.length) (hc : 0 ≤ c' ∧ c' < (ns.length : Int)) : RightP (setNext ns (nd ns x).f0.toNat (x : Int)) c' := by
 have hu := right_up g hx h0
 refine right_turn g (setNext_length _ _ _) (fun j hj => ?_) (fun j hj => ?_) hc
 ·rw [nd_setNext]
  split
  ·rename_i h; rw [← h.1]; exact ⟨rfl, rfl, rfl, rfl⟩
  ·exact ⟨rfl, rfl, rfl, rfl⟩
 ·rw [nd_setNext]
  split
  ·rename_i h; exact Or.inr ⟨x, h0, hx, by omega, rfl⟩
  ·exact Or.inl rfl
theorem right_turnTo {ns : List S69} {c c' : Int} (g : RightP ns c) {k : Nat} (hk : k < ns.length) (hc : 0 ≤ c' ∧ c' < (ns.length : Int)) : RightP (turnTo ns (ch ns k)) c' := by
 have hlt : ∀ i ∈ ch ns k, i < ns.length := fun i hi => by have := ch_le ns k i hi; omega
 refine right_turn g (turnTo_length _ _) (fun j hj => ?_) (fun j hj => ?_) hc
 all_goals
  by_cases h : ∃ i ∈ ch ns k, 0 < i ∧ (nd ns i).f0.toNat = j
  ·obtain ⟨i, hi, h0, rfl⟩ := h
   have hu := right_up g (hlt i hi) h0
   rw [turnTo_in (ch ns k) i h0 ns hi (by have := hlt i hi; omega) (fun b hb hn hb0 => ch_ups g hk b hb i hi hb0 h0 hn)]
   first
    | exact ⟨rfl, rfl, rfl, rfl⟩
    | exact Or.inr ⟨i, h0, hlt i hi, by omega, rfl⟩
  ·rw [turnTo_out (ch ns k) j ns (fun i hi h0 e => h ⟨i, hi, h0, e⟩)]
   first
    | exact ⟨rfl, rfl, rfl, rfl⟩
    | exact Or.inl rfl
/-- On the way there is a kid of each node but the last. -/
theorem ch_kid {ns : List S69} {c : Int} (g : RightP ns c) (k : Nat) : k < ns.length → ∀ v ∈ ch ns k, v ≠ k → ∃ i ∈ ch ns k, 0 < i ∧ (nd ns i).f0 = (v : Int) := by
 induction k using Nat.strongRecOn with
 | ind k ih =>
  intro hk v hv hn
  have h0 : 0 < k := by
   rcases Nat.eq_zero_or_pos k with e | e
   ·subst e
    rw [ch_zero] at hv
    simp at hv
    exact absurd hv hn
   ·exact e
  have hu := right_up g hk h0
  rw [ch_pos g hk h0] at hv ⊢
  rcases List.mem_cons.1 hv with rfl | hv
  ·exact absurd rfl hn
  ·by_cases e : v = (nd ns k).f0.toNat
   ·exact ⟨k, List.mem_cons_self, h0, by omega⟩
   ·obtain ⟨i, hi, i0, ei⟩ := ih (nd ns k).f0.toNat (by omega) (by omega) v hv e
    exact ⟨i, List.mem_cons_of_mem _ hi, i0, ei⟩
theorem lives_ : Ev (fun k => calamuslaw11_lives.f k) true := Ev.of calamuslaw11_lives.mono (k := 60) (by decide +kernel)
end Go.Proofs.Ytkiokimpblimcaa.TreeBackTree
