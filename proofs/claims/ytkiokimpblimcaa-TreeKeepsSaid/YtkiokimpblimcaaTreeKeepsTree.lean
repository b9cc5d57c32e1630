/- The functions of layer 11 (trees), and their document's: what they tell, over plain lists of nodes. In pieces. -/
import Derived.Test.YtkiokimpblimcaaTreeKeepsChange
namespace Go.Proofs.Ytkiokimpblimcaa.TreeKeepsTree
open Go.RowKit Go.Proofs.YtkiokimpblimcaaW.PrintWords Go.Proofs.YtkiokimpblimcaaW.PrintLast Go.Proofs.YtkiokimpblimcaaW.PrintMore
open Go.Proofs.Ytkiokimpblimcaa.PTreeKeeps
set_option linter.unusedVariables false
set_option linter.unusedSimpArgs false

theorem wrap_id {x : Int} (h : -9223372036854775808 ≤ x) (h' : x ≤ 9223372036854775807) : wrap64 x = x := by unfold wrap64; omega
theorem ev_const {α : Type} {g : Nat → Option α} {r : α} (h : ∀ k, g k = some r) : Ev g r := ⟨0, fun k _ => h k⟩
theorem ev_off {α : Type} {g : Nat → Option α} {r : α} (K : Nat) (h : Ev (fun k => g (k + K)) r) : Ev g r := by
 obtain ⟨n, hn⟩ := h
 refine ⟨n + K, fun k hk => ?_⟩
 have h2 := hn (k - K) (by omega)
 simpa only [Nat.sub_add_cancel (show K ≤ k by omega)] using h2
theorem ev_bind {α β : Type} {g : Nat → Option α} {f : Nat → α → Option β} {a : α} {r : β} (h : Ev g a) (k : Ev (fun n => f n a) r) : Ev (fun n => (g n).bind (f n)) r := Ev.bind h k
theorem ev_pos {α : Type} {c : Prop} [Decidable c] {a b : Nat → Option α} {r : α} (h : c) (k : Ev a r) : Ev (fun n => if c then a n else b n) r := by
 simpa only [if_pos h] using k
theorem ev_neg {α : Type} {c : Prop} [Decidable c] {a b : Nat → Option α} {r : α} (h : ¬ c) (k : Ev b r) : Ev (fun n => if c then a n else b n) r := by
 simpa only [if_neg h] using k
/-- A node by its number. -/
def nd (ns : List S69) (i : Nat) : S69 := ns.getD i z69
theorem rd_nd (ns : List S69) (i : Nat) : rd_T69 ns (i : Int) = nd ns i := by simp [rd_T69, nd]
def Kid (ns : List S69) (n i : Nat) : Prop := ∃ j, 0 < j ∧ j < n ∧ (nd ns j).f0 = (i : Int)
def NodeOk (ns : List S69) (j : Nat) : Prop := 0 < j → 0 ≤ (nd ns j).f0 ∧ (nd ns j).f0 < (j : Int) ∧ 0 ≤ (nd ns j).f2 ∧ 0 ≤ (nd ns j).f3
def NextOk (ns : List S69) (j : Nat) : Prop :=
 (Kid ns ns.length j → 0 ≤ (nd ns j).f1 ∧ (nd ns j).f1 < (ns.length : Int) ∧ (nd ns (nd ns j).f1.toNat).f0 = (j : Int)) ∧ (¬ Kid ns ns.length j → (nd ns j).f1 = -1)
theorem has_is (ns : List S69) (c k : Int) : tree_book_has.f ns c k = some (decide (0 ≤ k ∧ k < (ns.length : Int))) := by
 unfold tree_book_has.f
 by_cases h : k ≥ 0
 ·rw [if_pos h]; simp [h]
 ·rw [if_neg h]; simp [h]
theorem check_l1 (ns : List S69) (c : Int) (fl : List Bool) (hn : ns.length ≤ 1024) (hf : fl.length = ns.length) (hk : ∀ i, i < ns.length → (fl.getD i false = true ↔ Kid ns ns.length i)) (d : Nat) :
  ∀ i, i + d = ns.length → ∃ b, Ev (fun k => tree_check.l1 k fl ns (ns.length : Int) (i : Int) ns c) b ∧ (b = true ↔ ∀ j, i ≤ j → j < ns.length → NextOk ns j) := by
 induction d with
 | zero =>
  intro i hi
  refine ⟨true, ev_off 1 ?_, by simp; intro j h1 h2; omega⟩
  simp only [tree_check.l1]
  exact ev_neg (by omega) (Ev.now _)
 | succ d ih =>
  intro i hi
  have e1 : wrap64 ((i : Int) + 1) = ((i + 1 : Nat) : Int) := by rw [wrap_id (by omega) (by omega)]; rfl
  obtain ⟨b, h1, h2⟩ := ih (i + 1) (by omega)
  have step : NextOk ns i → (b = true ↔ ∀ j, i ≤ j → j < ns.length → NextOk ns j) := fun h => by
   rw [h2]
   refine ⟨fun g j h3 h4 => ?_, fun g j h3 h4 => g j (by omega) h4⟩
   by_cases hj : j = i
   ·subst hj; exact h
   ·exact g j (by omega) h4
  have bad : ¬ NextOk ns i → (false = true ↔ ∀ j, i ≤ j → j < ns.length → NextOk ns j) := fun h => ⟨by simp, fun g => absurd (g i (by omega) (by omega)) h⟩
  have rdf : rdOf false fl (i : Int) = fl.getD i false := by simp [rdOf]
  by_cases hkid : Kid ns ns.length i
  ·have hfl := (hk i (by omega)).2 hkid
   by_cases hr : 0 ≤ (nd ns i).f1 ∧ (nd ns i).f1 < (ns.length : Int)
   ·have e2 : rd_T69 ns (nd ns i).f1 = nd ns (nd ns i).f1.toNat := rfl
    by_cases hu : (nd ns (nd ns i).f1.toNat).f0 = (i : Int)
    ·refine ⟨b, ev_off 1 ?_, step ⟨fun _ => ⟨hr.1, hr.2, hu⟩, fun h => absurd hkid h⟩⟩
     simp only [tree_check.l1, rd_nd, has_is, rdf, hfl, e1, e2, Option.bind_some]
     exact ev_pos (by omega) (ev_pos (by omega) (ev_pos (by omega) (ev_pos (by omega) (ev_pos trivial (ev_pos (by simpa using hr) (ev_pos hr.1 (ev_pos hr.2 (ev_pos hu h1))))))))
    ·refine ⟨false, ev_off 1 ?_, bad fun h => hu (h.1 hkid).2.2⟩
     simp only [tree_check.l1, rd_nd, has_is, rdf, hfl, e1, e2, Option.bind_some]
     exact ev_pos (by omega) (ev_pos (by omega) (ev_pos (by omega) (ev_pos (by omega) (ev_pos trivial (ev_pos (by simpa using hr) (ev_pos hr.1 (ev_pos hr.2 (ev_neg hu (Ev.now _)))))))))
   ·refine ⟨false, ev_off 1 ?_, bad fun h => hr ⟨(h.1 hkid).1, (h.1 hkid).2.1⟩⟩
    simp only [tree_check.l1, rd_nd, has_is, rdf, hfl, e1, Option.bind_some]
    exact ev_pos (by omega) (ev_pos (by omega) (ev_pos (by omega) (ev_pos (by omega) (ev_pos trivial (ev_neg (by simpa using hr) (Ev.now _))))))
  ·have hfl : fl.getD i false = false := by
    cases h : fl.getD i false with
    | false => rfl
    | true => exact absurd ((hk i (by omega)).1 h) hkid
   by_cases hx : (nd ns i).f1 = -1
   ·refine ⟨b, ev_off 1 ?_, step ⟨fun h => absurd h hkid, fun _ => hx⟩⟩
    simp only [tree_check.l1, rd_nd, rdf, hfl, e1]
    exact ev_pos (by omega) (ev_pos (by omega) (ev_pos (by omega) (ev_pos (by omega) (ev_neg (by simp) (ev_pos hx h1)))))
   ·refine ⟨false, ev_off 1 ?_, bad fun h => hx (h.2 hkid)⟩
    simp only [tree_check.l1, rd_nd, rdf, hfl, e1]
    exact ev_pos (by omega) (ev_pos (by omega) (ev_pos (by omega) (ev_pos (by omega) (ev_neg (by simp) (ev_neg hx (Ev.now _))))))
theorem kid_succ (ns : List S69) (i j : Nat) : Kid ns (i + 1) j ↔ Kid ns i j ∨ (0 < i ∧ (nd ns i).f0 = (j : Int)) := by
 constructor
 ·rintro ⟨m, h1, h2, h3⟩
  by_cases hm : m = i
  ·subst hm; exact .inr ⟨h1, h3⟩
  ·exact .inl ⟨m, h1, by omega, h3⟩
 ·rintro (⟨m, h1, h2, h3⟩ | ⟨h1, h2⟩)
  ·exact ⟨m, h1, by omega, h3⟩
  ·exact ⟨i, h1, by omega, h2⟩
theorem check_l0 (ns : List S69) (c : Int) (hn : ns.length ≤ 1024) (d : Nat) :
  ∀ (i : Nat) (fl : List Bool), i + d = ns.length → fl.length = ns.length → (∀ j, j < ns.length → (fl.getD j false = true ↔ Kid ns i j)) →
  ∃ b, Ev (fun k => tree_check.l0 k fl ns (ns.length : Int) (i : Int) ns c) b ∧ (b = true ↔ (∀ j, i ≤ j → j < ns.length → NodeOk ns j) ∧ ∀ j, j < ns.length → NextOk ns j) := by
 induction d with
 | zero =>
  intro i fl hi hf hk
  obtain rfl : i = ns.length := by omega
  obtain ⟨b, h1, h2⟩ := check_l1 ns c fl hn hf hk ns.length 0 (by omega)
  refine ⟨b, ev_off 1 ?_, ?_⟩
  ·simp only [tree_check.l0]
   exact ev_neg (by omega) h1
  ·rw [h2]
   exact ⟨fun g => ⟨fun j h3 h4 => by omega, fun j h3 => g j (by omega) h3⟩, fun g j _ h3 => g.2 j h3⟩
 | succ d ih =>
  intro i fl hi hf hk
  have e1 : wrap64 ((i : Int) + 1) = ((i + 1 : Nat) : Int) := by rw [wrap_id (by omega) (by omega)]; rfl
  have step : ∀ b : Bool, NodeOk ns i → (b = true ↔ (∀ j, i + 1 ≤ j → j < ns.length → NodeOk ns j) ∧ ∀ j, j < ns.length → NextOk ns j) → (b = true ↔ (∀ j, i ≤ j → j < ns.length → NodeOk ns j) ∧ ∀ j, j < ns.length → NextOk ns j) := fun b h g => by
   rw [g]
   refine ⟨fun g => ⟨fun j h3 h4 => ?_, g.2⟩, fun g => ⟨fun j h3 h4 => g.1 j (by omega) h4, g.2⟩⟩
   by_cases hj : j = i
   ·subst hj; exact h
   ·exact g.1 j (by omega) h4
  have bad : ¬ NodeOk ns i → (false = true ↔ (∀ j, i ≤ j → j < ns.length → NodeOk ns j) ∧ ∀ j, j < ns.length → NextOk ns j) := fun h => ⟨by simp, fun g => absurd (g.1 i (by omega) (by omega)) h⟩
  by_cases h0 : 0 < i
  ·by_cases a1 : (nd ns i).f0 < 0
   ·refine ⟨false, ev_off 1 ?_, bad fun h => by have := h h0; omega⟩
    simp only [tree_check.l0, rd_nd]
    exact ev_pos (by omega) (ev_pos (by omega) (ev_pos (by omega) (ev_pos (by omega) (ev_pos a1 (Ev.now _)))))
   by_cases a2 : (nd ns i).f0 ≥ (i : Int)
   ·refine ⟨false, ev_off 1 ?_, bad fun h => by have := h h0; omega⟩
    simp only [tree_check.l0, rd_nd]
    exact ev_pos (by omega) (ev_pos (by omega) (ev_pos (by omega) (ev_pos (by omega) (ev_neg a1 (ev_pos a2 (Ev.now _))))))
   by_cases a3 : (nd ns i).f2 < 0
   ·refine ⟨false, ev_off 1 ?_, bad fun h => by have := h h0; omega⟩
    simp only [tree_check.l0, rd_nd]
    exact ev_pos (by omega) (ev_pos (by omega) (ev_pos (by omega) (ev_pos (by omega) (ev_neg a1 (ev_neg a2 (ev_pos a3 (Ev.now _)))))))
   by_cases a4 : (nd ns i).f3 < 0
   ·refine ⟨false, ev_off 1 ?_, bad fun h => by have := h h0; omega⟩
    simp only [tree_check.l0, rd_nd]
    exact ev_pos (by omega) (ev_pos (by omega) (ev_pos (by omega) (ev_pos (by omega) (ev_neg a1 (ev_neg a2 (ev_neg a3 (ev_pos a4 (Ev.now _))))))))
   obtain ⟨b, h1, h2⟩ := ih (i + 1) (fl.set (nd ns i).f0.toNat true) (by omega) (by simpa using hf) (fun j hj => by
    rw [kid_succ, ← hk j hj, List.getD_eq_getElem?_getD, List.getElem?_set, List.getD_eq_getElem?_getD]
    by_cases hu : (nd ns i).f0.toNat = j
    ·rw [if_pos hu, if_pos (by omega)]
     simp only [Option.getD_some, true_iff]
     exact .inr ⟨h0, by omega⟩
    ·rw [if_neg hu]
     exact ⟨.inl, fun h => h.elim id fun h => absurd h.2 (by omega)⟩)
   refine ⟨b, ev_off 1 ?_, step b (fun _ => by omega) h2⟩
   simp only [tree_check.l0, rd_nd, e1]
   exact ev_pos (by omega) (ev_pos (by omega) (ev_pos (by omega) (ev_pos (by omega) (ev_neg a1 (ev_neg a2 (ev_neg a3 (ev_neg a4 (ev_pos (by omega) (ev_pos (by omega) h1)))))))))
  ·obtain ⟨b, h1, h2⟩ := ih (i + 1) fl (by omega) hf (fun j hj => by
    rw [kid_succ, ← hk j hj]
    exact ⟨.inl, fun h => h.elim id fun h => absurd h.1 h0⟩)
   refine ⟨b, ev_off 1 ?_, step b (fun h => absurd h h0) h2⟩
   simp only [tree_check.l0, rd_nd, e1]
   exact ev_pos (by omega) (ev_pos (by omega) (ev_pos (by omega) (ev_neg (by omega) h1)))
def RootOk (ns : List S69) : Prop := (nd ns 0).f0 = -1 ∧ (nd ns 0).f2 = 0 ∧ (nd ns 0).f3 = 0 ∧ (nd ns 0).f4.f0 = 0 ∧ (nd ns 0).f4.f1.toList = ([] : List UInt8) ∧ (nd ns 0).f4.f2.toList = ([] : List UInt8)
def RightP (ns : List S69) (c : Int) : Prop := (1 ≤ ns.length ∧ ns.length ≤ 1024 ∧ 0 ≤ c ∧ c < (ns.length : Int)) ∧ RootOk ns ∧ (∀ j, j < ns.length → NodeOk ns j) ∧ ∀ j, j < ns.length → NextOk ns j
theorem check_is (ns : List S69) (c : Int) : ∃ b, Ev (fun k => tree_check.f k ns c) b ∧ (b = true ↔ RightP ns c) := by
 have jt : Ev (fun k => tree_check.j0 k true ns c) false := by
  refine ev_off 1 ?_
  simp only [tree_check.j0]
  exact ev_pos trivial (Ev.now _)
 unfold tree_check.f
 by_cases h1 : (ns.length : Int) < 1
 ·exact ⟨false, ev_pos h1 jt, by simp; intro h; have := h.1; omega⟩
 by_cases h2 : (ns.length : Int) > 1024
 ·exact ⟨false, ev_neg h1 (ev_pos h2 jt), by simp; intro h; have := h.1; omega⟩
 by_cases h3 : 0 ≤ c ∧ c < (ns.length : Int)
 ·have h0 : ∀ x : Int, ((0 : Int) = x) = ((0 : Nat) = x) := fun _ => rfl
  have r0 : rd_T69 ns 0 = nd ns 0 := rfl
  by_cases h4 : RootOk ns
  ·obtain ⟨b, g1, g2⟩ := check_l0 ns c (by omega) ns.length 0 (List.replicate ns.length false) (by omega) (by simp) (fun j hj => by
    rw [List.getD_eq_getElem?_getD, List.getElem?_replicate, if_pos hj]
    simp only [Option.getD_some]
    exact ⟨by simp, fun ⟨m, _, h, _⟩ => by omega⟩)
   refine ⟨b, ev_neg h1 (ev_neg h2 ?_), ?_⟩
   ·simp only [has_is, Option.bind_some]
    rw [decide_eq_true h3]
    refine ev_off 1 ?_
    simp only [tree_check.j0, r0]
    obtain ⟨q0, q1, q2, q3, q4, q5⟩ := h4
    refine ev_neg (by simp) (ev_pos (by omega) (ev_neg ?_ (ev_pos (by omega) (ev_pos (by omega) ?_))))
    ·rw [q0, q1, q2, q3, q4, q5]; decide
    ·simp only [Int.toNat_natCast]
     exact g1
   ·rw [g2]
    exact ⟨fun g => ⟨⟨by omega, by omega, h3⟩, h4, fun j hj => g.1 j (by omega) hj, g.2⟩, fun g => ⟨fun j _ hj => g.2.2.1 j hj, g.2.2.2⟩⟩
  ·refine ⟨false, ev_neg h1 (ev_neg h2 ?_), by simp; intro h; exact h4 h.2.1⟩
   simp only [has_is, Option.bind_some]
   rw [decide_eq_true h3]
   refine ev_off 1 ?_
   simp only [tree_check.j0, r0]
   refine ev_neg (by simp) (ev_pos (by omega) (ev_pos ?_ (Ev.now _)))
   refine Classical.byContradiction fun hb => h4 ?_
   simp only [Bool.not_eq_true, Bool.or_eq_false_iff, Bool.not_eq_false', beq_iff_eq] at hb
   exact hb
 ·refine ⟨false, ev_neg h1 (ev_neg h2 ?_), by simp; intro h; exact h3 h.1.2.2⟩
  simp only [has_is, Option.bind_some]
  rw [decide_eq_false h3]
  exact jt
theorem open_is {ns : List S69} {c : Int} {b : Bool} (h : Ev (fun k => tree_check.f k ns c) b) : Ev (fun k => tree_open.f k ns c) (ns, c, b) := ev_bind h (Ev.now _)
def setNext (ns : List S69) (u : Nat) (x : Int) : List S69 := ns.set u ⟨(nd ns u).f0, x, (nd ns u).f2, (nd ns u).f3, (nd ns u).f4⟩
theorem setNext_length (ns : List S69) (u : Nat) (x : Int) : (setNext ns u x).length = ns.length := by simp [setNext]
theorem nd_setNext (ns : List S69) (u i : Nat) (x : Int) : nd (setNext ns u x) i = if u = i ∧ u < ns.length then ⟨(nd ns u).f0, x, (nd ns u).f2, (nd ns u).f3, (nd ns u).f4⟩ else nd ns i := by
 unfold setNext nd
 rw [List.getD_eq_getElem?_getD, List.getElem?_set]
 by_cases h : u = i
 ·subst h
  by_cases h2 : u < ns.length
  ·simp [h2]
  ·rw [if_pos rfl, if_neg h2, if_neg (by omega), List.getD_eq_getElem?_getD, List.getElem?_eq_none (by omega)]
 ·rw [if_neg h, if_neg (by omega), ← List.getD_eq_getElem?_getD]
theorem nd_setNext_up (ns : List S69) (u i : Nat) (x : Int) : (nd (setNext ns u x) i).f0 = (nd ns i).f0 := by
 rw [nd_setNext]; split
 ·rename_i h; rw [h.1]
 ·rfl
theorem copy_is (ns : List S69) (c : Int) (hn : ns.length ≤ 1100) : tree_book_copy.f ns c = some (ns, c) := by
 unfold tree_book_copy.f api_Node.f
 rw [if_pos (by omega)]; rfl
theorem right_up {ns : List S69} {c : Int} (h : RightP ns c) {j : Nat} (hj : j < ns.length) (h0 : 0 < j) : 0 ≤ (nd ns j).f0 ∧ (nd ns j).f0 < (j : Int) := ⟨(h.2.2.1 j hj h0).1, (h.2.2.1 j hj h0).2.1⟩
theorem right_len {ns : List S69} {c : Int} (h : RightP ns c) : 1 ≤ ns.length ∧ ns.length ≤ 1024 := ⟨h.1.1, h.1.2.1⟩
theorem right_cur {ns : List S69} {c : Int} (h : RightP ns c) : 0 ≤ c ∧ c < (ns.length : Int) := h.1.2.2
theorem right_next {ns : List S69} {c : Int} (h : RightP ns c) {j : Nat} (hj : j < ns.length) (h0 : (nd ns j).f1 ≠ -1) : 0 ≤ (nd ns j).f1 ∧ (nd ns j).f1 < (ns.length : Int) ∧ (nd ns (nd ns j).f1.toNat).f0 = (j : Int) ∧ Kid ns ns.length j := by
 obtain ⟨h1, h2⟩ := h.2.2.2 j hj
 by_cases hk : Kid ns ns.length j
 ·exact ⟨(h1 hk).1, (h1 hk).2.1, (h1 hk).2.2, hk⟩
 ·exact absurd (h2 hk) h0
def ints (l : List Nat) : List Int := l.map (fun (n : Nat) => (n : Int))
theorem ints_length (l : List Nat) : (ints l).length = l.length := by simp [ints]
theorem ints_append (a b : List Nat) : ints (a ++ b) = ints a ++ ints b := by simp [ints]
theorem rd_ints (l : List Nat) (i : Nat) (h : i < l.length) : rd (ints l) (i : Int) = ((l[i] : Nat) : Int) := by simp [rd, ints, h]
/-- The way up from a node. -/
def ch (ns : List S69) (k : Nat) : List Nat := if h : 0 < k ∧ (nd ns k).f0.toNat < k then k :: ch ns (nd ns k).f0.toNat else [k]
termination_by k
decreasing_by exact h.2
theorem ch_zero (ns : List S69) : ch ns 0 = [0] := by rw [ch]; simp
theorem ch_pos {ns : List S69} {c : Int} (g : RightP ns c) {k : Nat} (hk : k < ns.length) (h0 : 0 < k) : ch ns k = k :: ch ns (nd ns k).f0.toNat := by
 have := right_up g hk h0
 rw [ch, dif_pos ⟨h0, by omega⟩]
theorem ch_le (ns : List S69) (k : Nat) : ∀ a, a ∈ ch ns k → a ≤ k := by
 induction k using Nat.strongRecOn with
 | ind k ih =>
  intro a h
  rw [ch] at h
  split at h
  ·rename_i hc
   rcases List.mem_cons.1 h with rfl | h
   ·omega
   ·have := ih _ hc.2 a h; omega
  ·rcases List.mem_cons.1 h with rfl | h
   ·omega
   ·simp at h
theorem ch_head (ns : List S69) (k : Nat) : ∃ T, ch ns k = k :: T := by
 rw [ch]; split
 ·exact ⟨_, rfl⟩
 ·exact ⟨_, rfl⟩
theorem ch_self (ns : List S69) (k : Nat) : k ∈ ch ns k := by
 obtain ⟨T, h⟩ := ch_head ns k
 rw [h]; exact List.mem_cons_self
theorem ch_desc (ns : List S69) (k : Nat) : (ch ns k).Pairwise (· > ·) := by
 induction k using Nat.strongRecOn with
 | ind k ih =>
  rw [ch]; split
  ·rename_i hc
   refine List.pairwise_cons.2 ⟨fun a h => ?_, ih _ hc.2⟩
   have := ch_le ns _ a h; omega
  ·simp
theorem ch_length (ns : List S69) (k : Nat) : (ch ns k).length ≤ k + 1 := by
 induction k using Nat.strongRecOn with
 | ind k ih =>
  rw [ch]; split
  ·rename_i hc
   have := ih _ hc.2; simp only [List.length_cons]; omega
  ·simp
theorem ch_suffix (ns : List S69) (k : Nat) : ∀ a, a ∈ ch ns k → ∃ A, ch ns k = A ++ ch ns a := by
 induction k using Nat.strongRecOn with
 | ind k ih =>
  intro a h
  by_cases e : a = k
  ·subst e; exact ⟨[], rfl⟩
  ·rw [ch] at h ⊢
   split at h
   ·rename_i hc
    rw [dif_pos hc]
    rcases List.mem_cons.1 h with h | h
    ·exact absurd h e
    ·obtain ⟨A, hA⟩ := ih _ hc.2 a h
     exact ⟨k :: A, by rw [hA]; rfl⟩
   ·rcases List.mem_cons.1 h with h | h
    ·exact absurd h e
    ·simp at h
theorem ch_zero_mem {ns : List S69} {c : Int} (g : RightP ns c) (k : Nat) : k < ns.length → 0 ∈ ch ns k := by
 induction k using Nat.strongRecOn with
 | ind k ih =>
  intro hk
  by_cases h0 : 0 < k
  ·have := right_up g hk h0
   rw [ch_pos g hk h0]
   exact List.mem_cons_of_mem _ (ih _ (by omega) (by omega))
  ·obtain rfl : k = 0 := by omega
   rw [ch_zero]; simp
theorem desc_tail {l : List Nat} (h : l.Pairwise (· > ·)) {A T : List Nat} {x : Nat} (e : l = A ++ x :: T) : T = l.filter (· < x) := by
 subst e
 rw [List.pairwise_append] at h
 obtain ⟨_, h2, h3⟩ := h
 rw [List.pairwise_cons] at h2
 rw [List.filter_append, List.filter_cons]
 have e1 : A.filter (· < x) = [] := by
  rw [List.filter_eq_nil_iff]
  intro a ha
  have := h3 a ha x List.mem_cons_self
  simp; omega
 rw [e1, if_neg (by simp), List.nil_append, List.filter_eq_self.2]
 intro a ha
 have := h2.1 a ha
 simpa using this
theorem ch_mem_below {ns : List S69} {k i j : Nat} (hi : i ∈ ch ns k) (hj : j ∈ ch ns k) (h : j ≤ i) : j ∈ ch ns i := by
 obtain ⟨A, hA⟩ := ch_suffix ns k i hi
 have hd := ch_desc ns k
 rw [hA, List.pairwise_append] at hd
 rw [hA] at hj
 rcases List.mem_append.1 hj with hj | hj
 ·have := hd.2.2 j hj i (ch_self ns i); omega
 ·exact hj
theorem asc_ext : ∀ {l m : List Nat}, l.Pairwise (· < ·) → m.Pairwise (· < ·) → (∀ a, a ∈ l ↔ a ∈ m) → l = m
 | [], [], _, _, _ => rfl
 | [], b :: m, _, _, h => absurd ((h b).2 List.mem_cons_self) (by simp)
 | a :: l, [], _, _, h => absurd ((h a).1 List.mem_cons_self) (by simp)
 | a :: l, b :: m, hl, hm, h => by
  rw [List.pairwise_cons] at hl hm
  have e : a = b := by
   have h1 := (h a).1 List.mem_cons_self
   have h2 := (h b).2 List.mem_cons_self
   rcases List.mem_cons.1 h1 with h1 | h1
   ·exact h1
   ·rcases List.mem_cons.1 h2 with h2 | h2
    ·exact h2.symm
    ·have := hl.1 b h2; have := hm.1 a h1; omega
  subst e
  rw [asc_ext hl.2 hm.2 (fun x => ?_)]
  have hx := h x
  rw [List.mem_cons, List.mem_cons] at hx
  constructor
  ·intro hm1
   have := hl.1 x hm1
   rcases hx.1 (.inr hm1) with e | e
   ·omega
   ·exact e
  ·intro hm1
   have := hm.1 x hm1
   rcases hx.2 (.inr hm1) with e | e
   ·omega
   ·exact e
/-- The numbers below n of which p is true. -/
def upV (p : Nat → Bool) : Nat → List Nat
 | 0 => []
 | n + 1 => upV p n ++ (if p n then [n] else [])
theorem mem_upV (p : Nat → Bool) (a : Nat) : ∀ n, a ∈ upV p n ↔ a < n ∧ p a = true
 | 0 => by simp [upV]
 | n + 1 => by
  rw [upV, List.mem_append, mem_upV p a n]
  by_cases hp : p n = true
  ·rw [if_pos hp, List.mem_singleton]
   constructor
   ·rintro (⟨h1, h2⟩ | rfl)
    ·exact ⟨by omega, h2⟩
    ·exact ⟨by omega, hp⟩
   ·rintro ⟨h1, h2⟩
    by_cases e : a = n
    ·exact .inr e
    ·exact .inl ⟨by omega, h2⟩
  ·rw [if_neg hp]
   constructor
   ·rintro (⟨h1, h2⟩ | h)
    ·exact ⟨by omega, h2⟩
    ·simp at h
   ·rintro ⟨h1, h2⟩
    have : a ≠ n := fun e => hp (e ▸ h2)
    exact .inl ⟨by omega, h2⟩
theorem upV_length (p : Nat → Bool) : ∀ n, (upV p n).length ≤ n
 | 0 => by simp [upV]
 | n + 1 => by have := upV_length p n; rw [upV, List.length_append]; split <;> simp <;> omega
theorem upV_asc (p : Nat → Bool) : ∀ n, (upV p n).Pairwise (· < ·)
 | 0 => by simp [upV]
 | n + 1 => by
  rw [upV, List.pairwise_append]
  refine ⟨upV_asc p n, by split <;> simp, fun a ha b hb => ?_⟩
  have := ((mem_upV p a n).1 ha).1
  split at hb
  ·simp at hb; omega
  ·simp at hb
theorem up_l0 {ns : List S69} {c : Int} (g : RightP ns c) (k : Nat) : ∀ acc : List Int, acc.length + k ≤ 2000 → k < ns.length → Ev (fun n => tree_book_up.l0 n (k : Int) acc ns c) (acc ++ ints (ch ns k)) := by
 have hl := right_len g
 induction k using Nat.strongRecOn with
 | ind k ih =>
  intro acc ha hk
  refine ev_off 1 ?_
  simp only [tree_book_up.l0, rd_nd]
  refine ev_pos (by omega) (ev_pos (by omega) (ev_pos (by omega) (ev_pos (by omega) ?_)))
  by_cases h0 : 0 < k
  ·have hu := right_up g hk h0
   have h := ih (nd ns k).f0.toNat (by omega) (acc ++ [(k : Int)]) (by simp; omega) (by omega)
   rw [Int.toNat_of_nonneg hu.1] at h
   rw [ch_pos g hk h0]
   simpa [ints] using h
  ·obtain rfl : k = 0 := by omega
   rw [g.2.1.1, ch_zero]
   refine ev_off 1 ?_
   simp only [tree_book_up.l0]
   exact ev_neg (by omega) (Ev.now _)
theorem up_is {ns : List S69} {c : Int} (g : RightP ns c) (k : Nat) (hk : k < ns.length) : Ev (fun n => tree_book_up.f n ns c (k : Int)) (ints (ch ns k)) := by
 have hl := right_len g
 exact up_l0 g k [] (by simp; omega) hk
theorem lives_ : Ev (fun k => calamuslaw11_lives.f k) true := Ev.of calamuslaw11_lives.mono (k := 60) (by decide +kernel)
end Go.Proofs.Ytkiokimpblimcaa.TreeKeepsTree
