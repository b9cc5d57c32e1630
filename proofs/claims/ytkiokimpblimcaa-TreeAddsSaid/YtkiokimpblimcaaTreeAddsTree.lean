/- The functions of layer 11 (trees), and their document's: what they tell, over plain lists of nodes. In pieces. -/
import Derived.Test.YtkiokimpblimcaaOTreeAddsx
import Derived.Test.YtkiokimpblimcaaOTreeAddsp
namespace Go.Proofs.Ytkiokimpblimcaa.TreeAddsTree
open Go.RowKit Go.Proofs.YtkiokimpblimcaaW.PrintWords Go.Proofs.YtkiokimpblimcaaW.PrintLast Go.Proofs.YtkiokimpblimcaaW.PrintMore
open Go.Proofs.Ytkiokimpblimcaa.PTreeAdds
set_option linter.unusedVariables false
set_option linter.unusedSimpArgs false

theorem wrap_id {x : Int} (h : -9223372036854775808 ≤ x) (h' : x ≤ 9223372036854775807) : wrap64 x = x := by unfold wrap64; omega
theorem ev_const {α : Type} {g : Nat → Option α} {r : α} (h : ∀ k, g k = some r) : Ev g r := ⟨0, fun k _ => h k⟩
theorem ev_off {α : Type} {g : Nat → Option α} {r : α} (K : Nat) (h : Ev (fun k => g (k + K)) r) : Ev g r := by
 obtain ⟨n, hn⟩ := h
 refine ⟨n + K, fun k hk => ?_⟩
 have h2 := hn (k - K) (by omega)
 simpa only [Nat.sub_add_cancel (show K ≤ k by omega)] using h2
theorem ev_bind {α β : Type} {g : Nat → Option α} {f : Nat → α → Option β} {a : α} {r : β} (h : Ev g a) (k : Ev (fun n => f n a) r) : Ev (fun n => (g n).bind (f n)) r := Ev.bind h k
theorem ev_pos {α : Type} {c : Prop} [Decidable c] {a b : Nat → Option α} {r : α} (h : c) (k : Ev a r) : Ev (fun n => if c then a n else b n) r := by
 simpa only [if_pos h] using k
theorem ev_neg {α : Type} {c : Prop} [Decidable c] {a b : Nat → Option α} {r : α} (h : ¬ c) (k : Ev b r) : Ev (fun n => if c then a n else b n) r := by
 simpa only [if_neg h] using k
theorem po_ {α : Type} {c : Prop} [Decidable c] {a b : Nat → Option α} {r : α} (k : Ev a r) (h : c := by omega) : Ev (fun n => if c then a n else b n) r := ev_pos h k
theorem ps_ {α : Type} {c : Prop} [Decidable c] {a b : Nat → Option α} {r : α} (k : Ev a r) (h : c := by simp) : Ev (fun n => if c then a n else b n) r := ev_pos h k
theorem no_ {α : Type} {c : Prop} [Decidable c] {a b : Nat → Option α} {r : α} (k : Ev b r) (h : ¬ c := by omega) : Ev (fun n => if c then a n else b n) r := ev_neg h k
theorem ns_ {α : Type} {c : Prop} [Decidable c] {a b : Nat → Option α} {r : α} (k : Ev b r) (h : ¬ c := by simp) : Ev (fun n => if c then a n else b n) r := ev_neg h k
/-- A node by its number. -/
def nd (ns : List S69) (i : Nat) : S69 := ns.getD i z69
theorem rd_nd (ns : List S69) (i : Nat) : rd_T69 ns (i : Int) = nd ns i := by simp [rd_T69, nd]
def Kid (ns : List S69) (n i : Nat) : Prop := ∃ j, 0 < j ∧ j < n ∧ (nd ns j).f0 = (i : Int)
def NodeOk (ns : List S69) (j : Nat) : Prop := 0 < j → 0 ≤ (nd ns j).f0 ∧ (nd ns j).f0 < (j : Int) ∧ 0 ≤ (nd ns j).f2 ∧ 0 ≤ (nd ns j).f3
def NextOk (ns : List S69) (j : Nat) : Prop :=
 (Kid ns ns.length j → 0 ≤ (nd ns j).f1 ∧ (nd ns j).f1 < (ns.length : Int) ∧ (nd ns (nd ns j).f1.toNat).f0 = (j : Int)) ∧ (¬ Kid ns ns.length j → (nd ns j).f1 = -1)
theorem has_is (ns : List S69) (c k : Int) : tree_book_has.f ns c k = some (decide (0 ≤ k ∧ k < (ns.length : Int))) := by
 unfold tree_book_has.f
 by_cases h : k ≥ 0
 ·rw [if_pos h]; simp [h]
 ·rw [if_neg h]; simp [h]
theorem rhas_is (ns : List S69) (c k : Int) : calamusref11_has.f ns c k = some (decide (0 ≤ k ∧ k < (ns.length : Int))) := by
 unfold calamusref11_has.f
 by_cases h : k ≥ 0
 ·rw [if_pos h]; simp [h]
 ·rw [if_neg h]; simp [h]
theorem check_l1 (ns : List S69) (c : Int) (fl : List Bool) (hn : ns.length ≤ 1024) (hf : fl.length = ns.length) (hk : ∀ i, i < ns.length → (fl.getD i false = true ↔ Kid ns ns.length i)) (d : Nat) :
  ∀ i, i + d = ns.length → ∃ b, Ev (fun k => tree_check.l1 k fl ns (ns.length : Int) (i : Int) ns c) b ∧ (b = true ↔ ∀ j, i ≤ j → j < ns.length → NextOk ns j) := by
 induction d with
 | zero =>
  intro i hi
  refine ⟨true, ev_off 1 ?_, by simp; intro j h1 h2; omega⟩
  simp only [tree_check.l1]
  exact no_ (Ev.now _)
 | succ d ih =>
  intro i hi
  have e1 : wrap64 ((i : Int) + 1) = ((i + 1 : Nat) : Int) := by rw [wrap_id (by omega) (by omega)]; rfl
  obtain ⟨b, h1, h2⟩ := ih (i + 1) (by omega)
  have step : NextOk ns i → (b = true ↔ ∀ j, i ≤ j → j < ns.length → NextOk ns j) := fun h => by
   rw [h2]
   refine ⟨fun g j h3 h4 => ?_, fun g j h3 h4 => g j (by omega) h4⟩
   by_cases hj : j = i
   ·subst hj; exact h
   ·exact g j (by omega) h4
  have bad : ¬ NextOk ns i → (false = true ↔ ∀ j, i ≤ j → j < ns.length → NextOk ns j) := fun h => ⟨by simp, fun g => absurd (g i (by omega) (by omega)) h⟩
  have rdf : rdOf false fl (i : Int) = fl.getD i false := by simp [rdOf]
  by_cases hkid : Kid ns ns.length i
  ·have hfl := (hk i (by omega)).2 hkid
   by_cases hr : 0 ≤ (nd ns i).f1 ∧ (nd ns i).f1 < (ns.length : Int)
   ·have e2 : rd_T69 ns (nd ns i).f1 = nd ns (nd ns i).f1.toNat := rfl
    by_cases hu : (nd ns (nd ns i).f1.toNat).f0 = (i : Int)
    ·refine ⟨b, ev_off 1 ?_, step ⟨fun _ => ⟨hr.1, hr.2, hu⟩, fun h => absurd hkid h⟩⟩
     simp only [tree_check.l1, rd_nd, has_is, rdf, hfl, e1, e2, Option.bind_some]
     exact po_ (po_ (po_ (po_ (ev_pos trivial (ev_pos (by simpa using hr) (ev_pos hr.1 (ev_pos hr.2 (ev_pos hu h1))))))))
    ·refine ⟨false, ev_off 1 ?_, bad fun h => hu (h.1 hkid).2.2⟩
     simp only [tree_check.l1, rd_nd, has_is, rdf, hfl, e1, e2, Option.bind_some]
     exact po_ (po_ (po_ (po_ (ev_pos trivial (ev_pos (by simpa using hr) (ev_pos hr.1 (ev_pos hr.2 (ev_neg hu (Ev.now _)))))))))
   ·refine ⟨false, ev_off 1 ?_, bad fun h => hr ⟨(h.1 hkid).1, (h.1 hkid).2.1⟩⟩
    simp only [tree_check.l1, rd_nd, has_is, rdf, hfl, e1, Option.bind_some]
    exact po_ (po_ (po_ (po_ (ev_pos trivial (ev_neg (by simpa using hr) (Ev.now _))))))
  ·have hfl : fl.getD i false = false := by
    cases h : fl.getD i false with
    | false => rfl
    | true => exact absurd ((hk i (by omega)).1 h) hkid
   by_cases hx : (nd ns i).f1 = -1
   ·refine ⟨b, ev_off 1 ?_, step ⟨fun h => absurd h hkid, fun _ => hx⟩⟩
    simp only [tree_check.l1, rd_nd, rdf, hfl, e1]
    exact po_ (po_ (po_ (po_ (ns_ (ev_pos hx h1)))))
   ·refine ⟨false, ev_off 1 ?_, bad fun h => hx (h.2 hkid)⟩
    simp only [tree_check.l1, rd_nd, rdf, hfl, e1]
    exact po_ (po_ (po_ (po_ (ns_ (ev_neg hx (Ev.now _))))))
theorem kid_succ (ns : List S69) (i j : Nat) : Kid ns (i + 1) j ↔ Kid ns i j ∨ (0 < i ∧ (nd ns i).f0 = (j : Int)) := by
 constructor
 ·rintro ⟨m, h1, h2, h3⟩
  by_cases hm : m = i
  ·subst hm; exact .inr ⟨h1, h3⟩
  ·exact .inl ⟨m, h1, by omega, h3⟩
 ·rintro (⟨m, h1, h2, h3⟩ | ⟨h1, h2⟩)
  ·exact ⟨m, h1, by omega, h3⟩
  ·exact ⟨i, h1, by omega, h2⟩
theorem check_l0 (ns : List S69) (c : Int) (hn : ns.length ≤ 1024) (d : Nat) :
  ∀ (i : Nat) (fl : List Bool), i + d = ns.length → fl.length = ns.length → (∀ j, j < ns.length → (fl.getD j false = true ↔ Kid ns i j)) →
  ∃ b, Ev (fun k => tree_check.l0 k fl ns (ns.length : Int) (i : Int) ns c) b ∧ (b = true ↔ (∀ j, i ≤ j → j < ns.length → NodeOk ns j) ∧ ∀ j, j < ns.length → NextOk ns j) := by
 induction d with
 | zero =>
  intro i fl hi hf hk
  obtain rfl : i = ns.length := by omega
  obtain ⟨b, h1, h2⟩ := check_l1 ns c fl hn hf hk ns.length 0 (by omega)
  refine ⟨b, ev_off 1 ?_, ?_⟩
  ·simp only [tree_check.l0]
   exact no_ h1
  ·rw [h2]
   exact ⟨fun g => ⟨fun j h3 h4 => by omega, fun j h3 => g j (by omega) h3⟩, fun g j _ h3 => g.2 j h3⟩
 | succ d ih =>
  intro i fl hi hf hk
  have e1 : wrap64 ((i : Int) + 1) = ((i + 1 : Nat) : Int) := by rw [wrap_id (by omega) (by omega)]; rfl
  have step : ∀ b : Bool, NodeOk ns i → (b = true ↔ (∀ j, i + 1 ≤ j → j < ns.length → NodeOk ns j) ∧ ∀ j, j < ns.length → NextOk ns j) → (b = true ↔ (∀ j, i ≤ j → j < ns.length → NodeOk ns j) ∧ ∀ j, j < ns.length → NextOk ns j) := fun b h g => by
   rw [g]
   refine ⟨fun g => ⟨fun j h3 h4 => ?_, g.2⟩, fun g => ⟨fun j h3 h4 => g.1 j (by omega) h4, g.2⟩⟩
   by_cases hj : j = i
   ·subst hj; exact h
   ·exact g.1 j (by omega) h4
  have bad : ¬ NodeOk ns i → (false = true ↔ (∀ j, i ≤ j → j < ns.length → NodeOk ns j) ∧ ∀ j, j < ns.length → NextOk ns j) := fun h => ⟨by simp, fun g => absurd (g.1 i (by omega) (by omega)) h⟩
  by_cases h0 : 0 < i
  ·by_cases a1 : (nd ns i).f0 < 0
   ·refine ⟨false, ev_off 1 ?_, bad fun h => by have := h h0; omega⟩
    simp only [tree_check.l0, rd_nd]
    exact po_ (po_ (po_ (po_ (ev_pos a1 (Ev.now _)))))
   by_cases a2 : (nd ns i).f0 ≥ (i : Int)
   ·refine ⟨false, ev_off 1 ?_, bad fun h => by have := h h0; omega⟩
    simp only [tree_check.l0, rd_nd]
    exact po_ (po_ (po_ (po_ (ev_neg a1 (ev_pos a2 (Ev.now _))))))
   by_cases a3 : (nd ns i).f2 < 0
   ·refine ⟨false, ev_off 1 ?_, bad fun h => by have := h h0; omega⟩
    simp only [tree_check.l0, rd_nd]
    exact po_ (po_ (po_ (po_ (ev_neg a1 (ev_neg a2 (ev_pos a3 (Ev.now _)))))))
   by_cases a4 : (nd ns i).f3 < 0
   ·refine ⟨false, ev_off 1 ?_, bad fun h => by have := h h0; omega⟩
    simp only [tree_check.l0, rd_nd]
    exact po_ (po_ (po_ (po_ (ev_neg a1 (ev_neg a2 (ev_neg a3 (ev_pos a4 (Ev.now _))))))))
   obtain ⟨b, h1, h2⟩ := ih (i + 1) (fl.set (nd ns i).f0.toNat true) (by omega) (by simpa using hf) (fun j hj => by
    rw [kid_succ, ← hk j hj, List.getD_eq_getElem?_getD, List.getElem?_set, List.getD_eq_getElem?_getD]
    by_cases hu : (nd ns i).f0.toNat = j
    ·rw [if_pos hu, if_pos (by omega)]
     simp only [Option.getD_some, true_iff]
     exact .inr ⟨h0, by omega⟩
    ·rw [if_neg hu]
     exact ⟨.inl, fun h => h.elim id fun h => absurd h.2 (by omega)⟩)
   refine ⟨b, ev_off 1 ?_, step b (fun _ => by omega) h2⟩
   simp only [tree_check.l0, rd_nd, e1]
   exact po_ (po_ (po_ (po_ (ev_neg a1 (ev_neg a2 (ev_neg a3 (ev_neg a4 (po_ (po_ h1)))))))))
  ·obtain ⟨b, h1, h2⟩ := ih (i + 1) fl (by omega) hf (fun j hj => by
    rw [kid_succ, ← hk j hj]
    exact ⟨.inl, fun h => h.elim id fun h => absurd h.1 h0⟩)
   refine ⟨b, ev_off 1 ?_, step b (fun h => absurd h h0) h2⟩
   simp only [tree_check.l0, rd_nd, e1]
   exact po_ (po_ (po_ (no_ h1)))
def RootOk (ns : List S69) : Prop := (nd ns 0).f0 = -1 ∧ (nd ns 0).f2 = 0 ∧ (nd ns 0).f3 = 0 ∧ (nd ns 0).f4.f0 = 0 ∧ (nd ns 0).f4.f1.toList = ([] : List UInt8) ∧ (nd ns 0).f4.f2.toList = ([] : List UInt8)
def RightP (ns : List S69) (c : Int) : Prop := (1 ≤ ns.length ∧ ns.length ≤ 1024 ∧ 0 ≤ c ∧ c < (ns.length : Int)) ∧ RootOk ns ∧ (∀ j, j < ns.length → NodeOk ns j) ∧ ∀ j, j < ns.length → NextOk ns j
theorem check_is (ns : List S69) (c : Int) : ∃ b, Ev (fun k => tree_check.f k ns c) b ∧ (b = true ↔ RightP ns c) := by
 have jt : Ev (fun k => tree_check.j0 k true ns c) false := by
  refine ev_off 1 ?_
  simp only [tree_check.j0]
  exact ev_pos trivial (Ev.now _)
 unfold tree_check.f
 by_cases h1 : (ns.length : Int) < 1
 ·exact ⟨false, ev_pos h1 jt, by simp; intro h; have := h.1; omega⟩
 by_cases h2 : (ns.length : Int) > 1024
 ·exact ⟨false, ev_neg h1 (ev_pos h2 jt), by simp; intro h; have := h.1; omega⟩
 by_cases h3 : 0 ≤ c ∧ c < (ns.length : Int)
 ·have h0 : ∀ x : Int, ((0 : Int) = x) = ((0 : Nat) = x) := fun _ => rfl
  have r0 : rd_T69 ns 0 = nd ns 0 := rfl
  by_cases h4 : RootOk ns
  ·obtain ⟨b, g1, g2⟩ := check_l0 ns c (by omega) ns.length 0 (List.replicate ns.length false) (by omega) (by simp) (fun j hj => by
    rw [List.getD_eq_getElem?_getD, List.getElem?_replicate, if_pos hj]
    simp only [Option.getD_some]
    exact ⟨by simp, fun ⟨m, _, h, _⟩ => by omega⟩)
   refine ⟨b, ev_neg h1 (ev_neg h2 ?_), ?_⟩
   ·simp only [has_is, Option.bind_some]
    rw [decide_eq_true h3]
    refine ev_off 1 ?_
    simp only [tree_check.j0, r0]
    obtain ⟨q0, q1, q2, q3, q4, q5⟩ := h4
    refine ns_ (po_ (ev_neg ?_ (po_ (po_ ?_))))
    ·rw [q0, q1, q2, q3, q4, q5]; decide
    ·simp only [Int.toNat_natCast]
     exact g1
   ·rw [g2]
    exact ⟨fun g => ⟨⟨by omega, by omega, h3⟩, h4, fun j hj => g.1 j (by omega) hj, g.2⟩, fun g => ⟨fun j _ hj => g.2.2.1 j hj, g.2.2.2⟩⟩
  ·refine ⟨false, ev_neg h1 (ev_neg h2 ?_), by simp; intro h; exact h4 h.2.1⟩
   simp only [has_is, Option.bind_some]
   rw [decide_eq_true h3]
   refine ev_off 1 ?_
   simp only [tree_check.j0, r0]
   refine ns_ (po_ (ev_pos ?_ (Ev.now _)))
   refine Classical.byContradiction fun hb => h4 ?_
   simp only [Bool.not_eq_true, Bool.or_eq_false_iff, Bool.not_eq_false', beq_iff_eq] at hb
   exact hb
 ·refine ⟨false, ev_neg h1 (ev_neg h2 ?_), by simp; intro h; exact h3 h.1.2.2⟩
  simp only [has_is, Option.bind_some]
  rw [decide_eq_false h3]
  exact jt
theorem right_l1 (ns : List S69) (c : Int) (ct : List Int) (hn : ns.length ≤ 1024) (hf : ct.length = ns.length) (h0 : ∀ i, i < ns.length → 0 ≤ ct.getD i 0) (hk : ∀ i, i < ns.length → (0 < ct.getD i 0 ↔ Kid ns ns.length i)) (d : Nat) :
  ∀ i, i + d = ns.length → ∃ b, Ev (fun k => calamusref11_Right.l1 k ct (i : Int) ns c) b ∧ (b = true ↔ ∀ j, i ≤ j → j < ns.length → NextOk ns j) := by
 induction d with
 | zero =>
  intro i hi
  refine ⟨true, ev_off 1 ?_, by simp; intro j h1 h2; omega⟩
  simp only [calamusref11_Right.l1]
  exact no_ (Ev.now _)
 | succ d ih =>
  intro i hi
  have e1 : wrap64 ((i : Int) + 1) = ((i + 1 : Nat) : Int) := by rw [wrap_id (by omega) (by omega)]; rfl
  obtain ⟨b, h1, h2⟩ := ih (i + 1) (by omega)
  have step : NextOk ns i → (b = true ↔ ∀ j, i ≤ j → j < ns.length → NextOk ns j) := fun h => by
   rw [h2]
   refine ⟨fun g j h3 h4 => ?_, fun g j h3 h4 => g j (by omega) h4⟩
   by_cases hj : j = i
   ·subst hj; exact h
   ·exact g j (by omega) h4
  have bad : ¬ NextOk ns i → (false = true ↔ ∀ j, i ≤ j → j < ns.length → NextOk ns j) := fun h => ⟨by simp, fun g => absurd (g i (by omega) (by omega)) h⟩
  have rdc : rd ct (i : Int) = ct.getD i 0 := by simp [rd]
  have hz := h0 i (by omega)
  by_cases hkid : Kid ns ns.length i
  ·have hfl := (hk i (by omega)).2 hkid
   by_cases hr : 0 ≤ (nd ns i).f1 ∧ (nd ns i).f1 < (ns.length : Int)
   ·have e2 : rd_T69 ns (nd ns i).f1 = nd ns (nd ns i).f1.toNat := rfl
    by_cases hu : (nd ns (nd ns i).f1.toNat).f0 = (i : Int)
    ·refine ⟨b, ev_off 1 ?_, step ⟨fun _ => ⟨hr.1, hr.2, hu⟩, fun h => absurd hkid h⟩⟩
     simp only [calamusref11_Right.l1, rd_nd, rhas_is, rdc, e1, e2, Option.bind_some]
     exact po_ (po_ (po_ (no_ (ev_pos hfl (ev_pos (by simpa using hr) (ev_pos hr.1 (ev_pos hr.2 (ev_pos hu h1))))))))
    ·refine ⟨false, ev_off 1 ?_, bad fun h => hu (h.1 hkid).2.2⟩
     simp only [calamusref11_Right.l1, rd_nd, rhas_is, rdc, e1, e2, Option.bind_some]
     exact po_ (po_ (po_ (no_ (ev_pos hfl (ev_pos (by simpa using hr) (ev_pos hr.1 (ev_pos hr.2 (ev_neg hu (Ev.now _)))))))))
   ·refine ⟨false, ev_off 1 ?_, bad fun h => hr ⟨(h.1 hkid).1, (h.1 hkid).2.1⟩⟩
    simp only [calamusref11_Right.l1, rd_nd, rhas_is, rdc, e1, Option.bind_some]
    exact po_ (po_ (po_ (no_ (ev_pos hfl (ev_neg (by simpa using hr) (Ev.now _))))))
  ·have hfl : ct.getD i 0 = 0 := by
    have : ¬ 0 < ct.getD i 0 := fun h => hkid ((hk i (by omega)).1 h)
    omega
   by_cases hx : (nd ns i).f1 = -1
   ·refine ⟨b, ev_off 1 ?_, step ⟨fun h => absurd h hkid, fun _ => hx⟩⟩
    simp only [calamusref11_Right.l1, rd_nd, rdc, e1]
    exact po_ (po_ (po_ (ev_pos hfl (ev_pos hx (no_ h1)))))
   ·refine ⟨false, ev_off 1 ?_, bad fun h => hx (h.2 hkid)⟩
    simp only [calamusref11_Right.l1, rd_nd, rdc, e1]
    exact po_ (po_ (po_ (ev_pos hfl (ev_neg hx (Ev.now _)))))
theorem right_l0 (ns : List S69) (c : Int) (hn : ns.length ≤ 1024) (d : Nat) :
  ∀ (i : Nat) (ct : List Int), i + d = ns.length → ct.length = ns.length → (∀ j, j < ns.length → 0 ≤ ct.getD j 0 ∧ ct.getD j 0 ≤ i) → (∀ j, j < ns.length → (0 < ct.getD j 0 ↔ Kid ns i j)) →
  ∃ b, Ev (fun k => calamusref11_Right.l0 k ct (i : Int) ns c) b ∧ (b = true ↔ (i = 0 → 0 < ns.length → RootOk ns) ∧ (∀ j, i ≤ j → j < ns.length → NodeOk ns j) ∧ ∀ j, j < ns.length → NextOk ns j) := by
 induction d with
 | zero =>
  intro i ct hi hf h0 hk
  obtain rfl : i = ns.length := by omega
  obtain ⟨b, h1, h2⟩ := right_l1 ns c ct hn hf (fun j hj => (h0 j hj).1) hk ns.length 0 (by omega)
  refine ⟨b, ev_off 1 ?_, ?_⟩
  ·simp only [calamusref11_Right.l0]
   exact no_ h1
  ·rw [h2]
   exact ⟨fun g => ⟨fun h3 h4 => by omega, fun j h3 h4 => by omega, fun j h3 => g j (by omega) h3⟩, fun g j _ h3 => g.2.2 j h3⟩
 | succ d ih =>
  intro i ct hi hf h0 hk
  have e1 : wrap64 ((i : Int) + 1) = ((i + 1 : Nat) : Int) := by rw [wrap_id (by omega) (by omega)]; rfl
  have bad3 : ∀ a0 a1 a2 a3 a4 : Int, ∀ s1 s2 : ByteArray, Ev (fun k => calamusref11_Right.j3 k ct (i : Int) true ns c a0 a1 a2 a3 a4 s1 s2) false := fun _ _ _ _ _ _ _ => by
   refine ev_off 1 ?_
   simp only [calamusref11_Right.j3]
   exact ev_pos trivial (Ev.now _)
  have bad2 : ∀ a0 a1 a2 a3 a4 : Int, ∀ s1 s2 : ByteArray, Ev (fun k => calamusref11_Right.j2 k ct (i : Int) true ns c a0 a1 a2 a3 a4 s1 s2) false := fun _ _ _ _ _ _ _ => by
   refine ev_off 1 ?_
   simp only [calamusref11_Right.j2]
   exact ev_pos trivial (Ev.now _)
  by_cases hi0 : i = 0
  ·subst hi0
   by_cases hr : RootOk ns
   ·obtain ⟨b, h1, h2⟩ := ih 1 ct (by omega) hf (fun j hj => ⟨(h0 j hj).1, by have := (h0 j hj).2; omega⟩) (fun j hj => by
     rw [hk j hj, kid_succ]
     exact ⟨.inl, fun h => h.elim id fun h => absurd h.1 (by omega)⟩)
    refine ⟨b, ?_, ?_⟩
    ·obtain ⟨q0, q1, q2, q3, q4, q5⟩ := hr
     refine ev_off 1 ?_
     simp only [calamusref11_Right.l0, rd_nd]
     refine po_ (po_ (po_ (ev_pos q0 (ev_pos q1 (ev_pos q2 ?_)))))
     simp only [q3, q4, q5]
     refine ev_off 1 ?_
     simp only [calamusref11_Right.j2]
     refine ev_neg (by decide) (no_ ?_)
     refine ev_off 1 ?_
     simp only [calamusref11_Right.j3]
     exact ns_ (no_ (by rw [e1]; exact h1))
    ·rw [h2]
     refine ⟨fun g => ⟨fun _ _ => hr, fun j _ hj => ?_, g.2.2⟩, fun g => ⟨fun h => by omega, fun j _ hj => g.2.1 j (by omega) hj, g.2.2⟩⟩
     by_cases hj0 : j = 0
     ·subst hj0; exact fun h => absurd h (by omega)
     ·exact g.2.1 j (by omega) hj
   ·refine ⟨false, ?_, ⟨by simp, fun g => absurd (g.1 rfl (by omega)) hr⟩⟩
    refine ev_off 1 ?_
    simp only [calamusref11_Right.l0, rd_nd]
    refine po_ (po_ (po_ ?_))
    by_cases q0 : (nd ns 0).f0 = -1
    ·refine ev_pos q0 ?_
     by_cases q1 : (nd ns 0).f2 = 0
     ·refine ev_pos q1 ?_
      by_cases q2 : (nd ns 0).f3 = 0
      ·refine ev_pos q2 ?_
       have hb : (!((nd ns 0).f4.f0 == 0) || (!((nd ns 0).f4.f1.toList == ([] : List UInt8)) || (!((nd ns 0).f4.f2.toList == ([] : List UInt8))))) = true := by
        refine Classical.byContradiction fun hb => hr ?_
        simp only [Bool.not_eq_true, Bool.or_eq_false_iff, Bool.not_eq_false', beq_iff_eq] at hb
        exact ⟨q0, q1, q2, hb⟩
       rw [hb]
       exact bad2 _ _ _ _ _ _ _
      ·exact ev_neg q2 (bad2 _ _ _ _ _ _ _)
     ·exact ev_neg q1 (bad2 _ _ _ _ _ _ _)
    ·exact ev_neg q0 (bad2 _ _ _ _ _ _ _)
  ·have bad : ¬ NodeOk ns i → (false = true ↔ (i = 0 → 0 < ns.length → RootOk ns) ∧ (∀ j, i ≤ j → j < ns.length → NodeOk ns j) ∧ ∀ j, j < ns.length → NextOk ns j) := fun h => ⟨by simp, fun g => absurd (g.2.1 i (by omega) (by omega)) h⟩
   have hip : 0 < i := by omega
   have go : ∀ b, Ev (fun k => calamusref11_Right.j2 k ct (i : Int) false ns c (nd ns i).f0 (nd ns i).f1 (nd ns i).f2 (nd ns i).f3 (nd ns i).f4.f0 (nd ns i).f4.f1 (nd ns i).f4.f2) b → Ev (fun k => calamusref11_Right.l0 k ct (i : Int) ns c) b := fun b h => by
    refine ev_off 1 ?_
    simp only [calamusref11_Right.l0, rd_nd]
    exact po_ (po_ (no_ h))
   by_cases a1 : (nd ns i).f0 < 0
   ·refine ⟨false, go _ (ev_off 1 ?_), bad fun h => by have := h hip; omega⟩
    simp only [calamusref11_Right.j2]
    exact ns_ (po_ (ev_pos a1 (bad3 _ _ _ _ _ _ _)))
   by_cases a2 : (nd ns i).f0 ≥ (i : Int)
   ·refine ⟨false, go _ (ev_off 1 ?_), bad fun h => by have := h hip; omega⟩
    simp only [calamusref11_Right.j2]
    exact ns_ (po_ (ev_neg a1 (ev_pos a2 (bad3 _ _ _ _ _ _ _))))
   by_cases a3 : (nd ns i).f2 < 0
   ·refine ⟨false, go _ (ev_off 1 ?_), bad fun h => by have := h hip; omega⟩
    simp only [calamusref11_Right.j2]
    exact ns_ (po_ (ev_neg a1 (ev_neg a2 (ev_pos a3 (bad3 _ _ _ _ _ _ _)))))
   by_cases a4 : (nd ns i).f3 < 0
   ·refine ⟨false, go _ (ev_off 1 ?_), bad fun h => by have := h hip; omega⟩
    simp only [calamusref11_Right.j2, decide_eq_true a4]
    exact ns_ (po_ (ev_neg a1 (ev_neg a2 (ev_neg a3 (bad3 _ _ _ _ _ _ _)))))
   have hu : (nd ns i).f0.toNat < ns.length := by omega
   have hc := h0 _ hu
   have e2 : rd ct (nd ns i).f0 = ct.getD (nd ns i).f0.toNat 0 := rfl
   have e3 : wrap64 (ct.getD (nd ns i).f0.toNat 0 + 1) = ct.getD (nd ns i).f0.toNat 0 + 1 := wrap_id (by omega) (by omega)
   obtain ⟨b, h1, h2⟩ := ih (i + 1) (ct.set (nd ns i).f0.toNat (ct.getD (nd ns i).f0.toNat 0 + 1)) (by omega) (by simpa using hf) (fun j hj => by
     have := h0 j hj
     rw [List.getD_eq_getElem?_getD, List.getElem?_set]
     rw [List.getD_eq_getElem?_getD] at this
     by_cases hj : (nd ns i).f0.toNat = j
     ·rw [if_pos hj, if_pos (by omega)]
      simp only [Option.getD_some]
      omega
     ·rw [if_neg hj]; omega) (fun j hj => by
     rw [kid_succ, ← hk j hj, List.getD_eq_getElem?_getD, List.getElem?_set]
     by_cases hj2 : (nd ns i).f0.toNat = j
     ·rw [if_pos hj2, if_pos (by omega)]
      simp only [Option.getD_some]
      exact ⟨fun _ => .inr ⟨hip, by omega⟩, fun _ => by omega⟩
     ·rw [if_neg hj2, List.getD_eq_getElem?_getD]
      exact ⟨.inl, fun h => h.elim id fun h => absurd h.2 (by omega)⟩)
   refine ⟨b, go _ (ev_off 1 ?_), ?_⟩
   ·simp only [calamusref11_Right.j2, decide_eq_false a4]
    refine ns_ (po_ (ev_neg a1 (ev_neg a2 (ev_neg a3 (ev_off 1 ?_)))))
    simp only [calamusref11_Right.j3, e1, e2, e3]
    exact ns_ (po_ (po_ (po_ h1)))
   ·rw [h2]
    refine ⟨fun g => ⟨fun h => absurd h hi0, fun j h3 h4 => ?_, g.2.2⟩, fun g => ⟨fun h => by omega, fun j h3 h4 => g.2.1 j (by omega) h4, g.2.2⟩⟩
    by_cases hj : j = i
    ·subst hj; exact fun _ => by omega
    ·exact g.2.1 j (by omega) h4
theorem right_is (ns : List S69) (c : Int) : ∃ b, Ev (fun k => calamusref11_Right.f k ns c) b ∧ (b = true ↔ RightP ns c) := by
 have jt : Ev (fun k => calamusref11_Right.j0 k true ns c) false := by
  refine ev_off 1 ?_
  simp only [calamusref11_Right.j0]
  exact ev_pos trivial (Ev.now _)
 unfold calamusref11_Right.f
 by_cases h1 : (ns.length : Int) < 1
 ·exact ⟨false, ev_pos h1 jt, by simp; intro h; have := h.1; omega⟩
 by_cases h2 : (ns.length : Int) > 1024
 ·exact ⟨false, ev_neg h1 (ev_pos h2 jt), by simp; intro h; have := h.1; omega⟩
 by_cases h3 : 0 ≤ c ∧ c < (ns.length : Int)
 ·obtain ⟨b, g1, g2⟩ := right_l0 ns c (by omega) ns.length 0 (List.replicate ns.length 0) (by omega) (by simp) (fun j hj => by
    rw [List.getD_eq_getElem?_getD, List.getElem?_replicate, if_pos hj]
    simp) (fun j hj => by
    rw [List.getD_eq_getElem?_getD, List.getElem?_replicate, if_pos hj]
    simp only [Option.getD_some]
    exact ⟨by simp, fun ⟨m, _, h, _⟩ => by omega⟩)
  refine ⟨b, ev_neg h1 (ev_neg h2 ?_), ?_⟩
  ·simp only [rhas_is, Option.bind_some]
   rw [decide_eq_true h3]
   refine ev_off 1 ?_
   simp only [calamusref11_Right.j0, Int.toNat_natCast]
   exact ns_ (po_ (po_ g1))
  ·rw [g2]
   exact ⟨fun g => ⟨⟨by omega, by omega, h3⟩, g.1 rfl (by omega), fun j hj => g.2.1 j (by omega) hj, g.2.2⟩, fun g => ⟨fun _ _ => g.2.1, fun j _ hj => g.2.2.1 j hj, g.2.2.2⟩⟩
 ·refine ⟨false, ev_neg h1 (ev_neg h2 ?_), by simp; intro h; exact h3 h.1.2.2⟩
  simp only [rhas_is, Option.bind_some]
  rw [decide_eq_false h3]
  exact jt
theorem both_is (ns : List S69) (c : Int) : ∃ b, Ev (fun k => tree_check.f k ns c) b ∧ Ev (fun k => calamusref11_Right.f k ns c) b ∧ (b = true ↔ RightP ns c) := by
 obtain ⟨b, h1, h2⟩ := check_is ns c
 obtain ⟨b', h3, h4⟩ := right_is ns c
 obtain rfl : b = b' := by rw [Bool.eq_iff_iff, h2, h4]
 exact ⟨b, h1, h3, h2⟩
theorem open_is {ns : List S69} {c : Int} {b : Bool} (h : Ev (fun k => tree_check.f k ns c) b) : Ev (fun k => tree_open.f k ns c) (ns, c, b) := ev_bind h (Ev.now _)
theorem same11_l0 (ns : List S69) (c c' : Int) (hn : ns.length ≤ 1000000000000) (d : Nat) : ∀ i : Nat, i + d = ns.length → Ev (fun k => calamusref11_Same.l0 k (i : Int) ns c ns c') true := by
 induction d with
 | zero =>
  intro i hi
  refine ev_off 1 ?_
  simp only [calamusref11_Same.l0]
  exact no_ (Ev.now _)
 | succ d ih =>
  intro i hi
  have e1 : wrap64 ((i : Int) + 1) = ((i + 1 : Nat) : Int) := by rw [wrap_id (by omega) (by omega)]; rfl
  refine ev_off 1 ?_
  simp only [calamusref11_Same.l0, beq_self_eq_true, Bool.not_true, Bool.or_self, e1]
  exact po_ (po_ (po_ (ns_ (ih (i + 1) (by omega)))))
theorem same11_is (ns : List S69) (c : Int) (hn : ns.length ≤ 1000000000000) : Ev (fun k => calamusref11_Same.f k ns c ns c) true := by
 unfold calamusref11_Same.f
 refine ev_pos rfl (ev_off 1 ?_)
 simp only [calamusref11_Same.j0]
 exact ns_ (same11_l0 ns c c hn ns.length 0 (by omega))
def setNext (ns : List S69) (u : Nat) (x : Int) : List S69 := ns.set u ⟨(nd ns u).f0, x, (nd ns u).f2, (nd ns u).f3, (nd ns u).f4⟩
theorem setNext_length (ns : List S69) (u : Nat) (x : Int) : (setNext ns u x).length = ns.length := by simp [setNext]
theorem nd_setNext (ns : List S69) (u i : Nat) (x : Int) : nd (setNext ns u x) i = if u = i ∧ u < ns.length then ⟨(nd ns u).f0, x, (nd ns u).f2, (nd ns u).f3, (nd ns u).f4⟩ else nd ns i := by
 unfold setNext nd
 rw [List.getD_eq_getElem?_getD, List.getElem?_set]
 by_cases h : u = i
 ·subst h
  by_cases h2 : u < ns.length
  ·simp [h2]
  ·rw [if_pos rfl, if_neg h2, if_neg (by omega), List.getD_eq_getElem?_getD, List.getElem?_eq_none (by omega)]
 ·rw [if_neg h, if_neg (by omega), ← List.getD_eq_getElem?_getD]
theorem nd_setNext_up (ns : List S69) (u i : Nat) (x : Int) : (nd (setNext ns u x) i).f0 = (nd ns i).f0 := by
 rw [nd_setNext]; split
 ·rename_i h; rw [h.1]
 ·rfl
theorem with_nil (ns : List S69) (c v : Int) (hn : ns.length ≤ 1100) : Ev (fun k => calamusref11_with.f k ns c [] v) (ns, v) := by
 unfold calamusref11_with.f
 refine ev_pos (by simp; omega) (ev_off 1 ?_)
 simp only [calamusref11_with.l0, List.nil_append]
 exact ns_ (Ev.now _)
theorem with_l0_step (ns : List S69) (way : List Int) (cur : Int) (i m : Nat) (hi : i < way.length) (hm : rd way (i : Int) = (m : Int)) (hml : m < ns.length) (hu : 0 ≤ (nd ns m).f0) (hul : (nd ns m).f0 < (ns.length : Int)) (hw : way.length ≤ 1000000000000) {r : List S69 × Int}
  (h : Ev (fun k => calamusref11_with.l0 k way cur (setNext ns (nd ns m).f0.toNat (m : Int)) ((i + 1 : Nat) : Int)) r) : Ev (fun k => calamusref11_with.l0 k way cur ns (i : Int)) r := by
 have e1 : wrap64 ((i : Int) + 1) = ((i + 1 : Nat) : Int) := by rw [wrap_id (by omega) (by omega)]; rfl
 have e2 : rd_T69 ns (nd ns m).f0 = nd ns (nd ns m).f0.toNat := rfl
 refine ev_off 1 ?_
 simp only [calamusref11_with.l0, hm, rd_nd, e1, e2]
 exact po_ (po_ (po_ (po_ (ev_pos hu (ev_pos hul h)))))
theorem with_one (ns : List S69) (c cur : Int) (m : Nat) (hn : ns.length ≤ 1100) (hml : m < ns.length) (hu : 0 ≤ (nd ns m).f0) (hul : (nd ns m).f0 < (ns.length : Int)) : Ev (fun k => calamusref11_with.f k ns c [(m : Int)] cur) (setNext ns (nd ns m).f0.toNat (m : Int), cur) := by
 unfold calamusref11_with.f
 refine ev_pos (by simp; omega) ?_
 simp only [List.nil_append]
 refine with_l0_step ns [(m : Int)] cur 0 m (by simp) (by simp [rd]) hml hu hul (by simp) (ev_off 1 ?_)
 simp only [calamusref11_with.l0]
 exact ns_ (Ev.now _)
theorem copy_is (ns : List S69) (c : Int) (hn : ns.length ≤ 1100) : tree_book_copy.f ns c = some (ns, c) := by
 unfold tree_book_copy.f api_Node_97.f
 rw [if_pos (by omega)]; rfl
theorem right_up {ns : List S69} {c : Int} (h : RightP ns c) {j : Nat} (hj : j < ns.length) (h0 : 0 < j) : 0 ≤ (nd ns j).f0 ∧ (nd ns j).f0 < (j : Int) := ⟨(h.2.2.1 j hj h0).1, (h.2.2.1 j hj h0).2.1⟩
theorem right_len {ns : List S69} {c : Int} (h : RightP ns c) : 1 ≤ ns.length ∧ ns.length ≤ 1024 := ⟨h.1.1, h.1.2.1⟩
theorem right_cur {ns : List S69} {c : Int} (h : RightP ns c) : 0 ≤ c ∧ c < (ns.length : Int) := h.1.2.2
theorem same83_l0 (ns : List S69) (hn : ns.length ≤ 1000000000000) (d : Nat) : ∀ i : Nat, i + d = ns.length → Ev (fun k => api_Node_83.l0 k ns ns (ns.length : Int) (i : Int)) true := by
 induction d with
 | zero =>
  intro i hi
  refine ev_off 1 ?_
  simp only [api_Node_83.l0]
  exact ev_neg (by omega) (Ev.now _)
 | succ d ih =>
  intro i hi
  refine ev_off 1 ?_
  simp only [api_Node_83.l0]
  have e1 : wrap64 ((i : Int) + 1) = ((i + 1 : Nat) : Int) := by rw [wrap_id (by omega) (by omega)]; rfl
  rw [e1]
  exact ev_pos (by omega) (ev_pos (by omega) (ev_pos (by omega) (ev_pos (by omega) (ev_neg (by simp) (ih (i + 1) (by omega))))))
theorem same_refl (ns : List S69) (c : Int) (hn : ns.length ≤ 1000000000000) : Ev (fun k => tree_Same.f k ns c ns c) true := by
 unfold tree_Same.f api_Node_83.f
 exact ev_pos rfl (ev_bind (ev_pos rfl (same83_l0 ns hn ns.length 0 (by omega))) (Ev.now _))
theorem lives_ : Ev (fun k => calamuslaw11_lives.f k) true := Ev.of calamuslaw11_lives.mono (k := 60) (by decide +kernel)
end Go.Proofs.Ytkiokimpblimcaa.TreeAddsTree
