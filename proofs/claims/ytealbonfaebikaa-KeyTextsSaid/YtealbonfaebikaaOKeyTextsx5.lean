/- Of the law calamus/calamuslaw13.KeyTexts: each function as a plain Lean function, with a proof that the call comes to it; the row. By wip/tpl/own_print.py. Conditions: none but the row's own. -/
import Derived.Test.YtealbonfaebikaaOKeyTextsx0
import Derived.Test.YtealbonfaebikaaOKeyTextsx1
import Derived.Test.YtealbonfaebikaaOKeyTextsx2
import Derived.Test.YtealbonfaebikaaOKeyTextsx4
namespace Go.Proofs.Ytealbonfaebikaa.PKeyTexts
open Go.RowKit Go.Proofs.YtealbonfaebikaaW.PrintWords Go.Proofs.YtealbonfaebikaaW.PrintLast Go.Proofs.YtealbonfaebikaaW.PrintMore
attribute [local go_sem] max2_int min2_int max_two min_two max_three min_three max_four min_four   -- for this text's walks alone
set_option linter.unusedVariables false
set_option linter.unusedSimpArgs false

/-! ### key_Parse: function 48, by hand (key.Parse.lean) -/
def key_Parse.l0 : Nat → ByteArray → ByteArray → Option (ByteArray × Int)
 | 0, _, _ => none
 | k + 1, s, b => if s.toList = ([] : List UInt8) then some (b, 0) else (key_named.f k s).bind fun p => if p.1.toList = ([] : List UInt8) then some (⟨#[]⟩, 3) else if b.size + p.1.size ≤ 140737488355328 then key_Parse.l0 k p.2 (b ++ p.1) else none
def key_Parse.f (k : Nat) (a0 : ByteArray) : Option (ByteArray × Int) := (utf_Valid.f k a0).bind fun t => if t = true then key_Parse.l0 k a0 ⟨#[]⟩ else some (⟨#[]⟩, 5)
theorem key_Parse.mono_l : ∀ k, (∀ s b, LeO (key_Parse.l0 k s b) (key_Parse.l0 (k + 1) s b))
 | 0 => fun _ _ r h => by simp [key_Parse.l0] at h
 | k + 1 => by
  have ih := key_Parse.mono_l k
  intro s b
  unfold key_Parse.l0
  refine LeO.ite (LeO.refl _) (LeO.bind (key_named.mono _ _) (fun _ => LeO.ite (LeO.refl _) (LeO.ite (ih _ _) (LeO.none _))))
theorem key_Parse.mono : ∀ a0 k, LeO (key_Parse.f k a0) (key_Parse.f (k + 1) a0) := by
 intro a0 k
 unfold key_Parse.f
 refine LeO.bind (utf_Valid.mono _ _) (fun _ => LeO.ite (key_Parse.mono_l _ _ _) (LeO.refl _))
/-- A builder that holds these bytes. -/
def bld (B b : Nat) (s : ByteArray) (w : World) : Prop := Lib.IsBuilder 117 5 B b (Lib.strCells s) w
theorem bld_below {B b : Nat} {s : ByteArray} {w w' : World} (h : bld B b s w) (hb : Below w.heap.size w w') : bld B b s w' := by
 unfold bld Lib.IsBuilder at h ⊢
 refine h.imp (fun h => ?_) (fun h => ?_) <;>
 ·have hlt := h.lt
  obtain ⟨h1, v, h2, h3, h4⟩ := h
  exact ⟨h1, v, (hb.block b hlt).trans h2, pw_own_below h3 hb, h4⟩
theorem bld_new {B b : Nat} {w : World} (hB : B ≤ b) (h : w.heap[b]? = some (.cells #[.pointer none, .slice none 0 0] 117 (0, 0))) : bld B b ⟨#[]⟩ w :=
 Or.inl ⟨hB, .slice none 0 0, h, ⟨rfl, Or.inl ⟨rfl, rfl⟩⟩, by simp [Value.ownBlock]⟩
theorem bld_write (B b : Nat) (t s : ByteArray) (w : World) (h : bld B b t w) (hlen : t.size + s.size ≤ 140737488355328) (hBw : B ≤ w.heap.size) :
  Calls Try.prog 77 #[.pointer (some ⟨b, 0, none⟩), .string s] w fun e w' => e = .returned (.tuple #[.int .i64 s.size, .nilIface]) ∧ bld B b (t ++ s) w' ∧ Below B w w' := by
 refine (Any.Builder_WriteString { shelf_lays156 with } shelf_Builder_Extra_156 B b (Lib.strCells t) s w h (by rw [Lib.strCells_length]; exact hlen) hBw).mono ?_
 rintro e w' ⟨rfl, h1, h2⟩
 refine ⟨rfl, Or.inr ?_, h2⟩
 have e : Lib.strCells (t ++ s) = Lib.strCells t ++ Lib.strCells s := by simp [Lib.strCells, ByteArray.data_append]
 rw [e]
 exact h1
theorem bld_text (B b : Nat) (t : ByteArray) (w : World) (h : bld B b t w) (hBw : B ≤ w.heap.size) :
  Calls Try.prog 78 #[.pointer (some ⟨b, 0, none⟩)] w fun e w' => e = .returned (.string t) ∧ Below B w w' :=
 Any.Builder_String_any { shelf_lays156 with } shelf_Builder_Extra_156 B b t.data.toList w h hBw
set_option maxHeartbeats 4000000 in
set_option maxRecDepth 100000 in
theorem key_Parse.calls (k : Nat) (a0 : ByteArray) (r1 : ByteArray) (r2 : Int) (w : World) (h : key_Parse.f k a0 = some (r1, r2)) :
  Calls Try.prog 48 #[.string a0] w fun e w' => e = .returned (.tuple #[.string r1, .int .i64 r2]) ∧ Below w.heap.size w w' := by
 have HB := Aside0.mk (Below.refl w.heap.size w)
 unfold key_Parse.f at h
 obtain ⟨t1, A10, H⟩ := Option.bind_eq_some_iff.mp h
 have A1 := Aside0.mk A10
 clear h A10
 cases t1
 case false =>
  obtain ⟨rfl, rfl⟩ : (⟨#[]⟩ : ByteArray) = r1 ∧ (5 : Int) = r2 := by simpa using H
  go_enter Try.func48, Try.ntmps48
  go_wp2_with ((with_reducible refine gate_callee (f := 74) rfl ?_); refine ge_ (some 8) rfl rfl Try.func74 (by kernel_rfl) rfl #[.string a0] rfl (h := ?_); (with_reducible refine (utf_Valid.calls k a0 _ _ A1.out).mono ?_); rintro e w2 ⟨rfl, hb⟩; refine ⟨_, rfl, ?_⟩; replace HB := bs_ HB hb; clear hb)
  go_ret2
  exact ⟨er_, hb_ HB⟩
 case true =>
  have H' : Aside0 (key_Parse.l0 k a0 ⟨#[]⟩ = some (r1, r2)) := ⟨H⟩
  clear H
  go_enter Try.func48, Try.ntmps48
  go_wp2_with (first | ((with_reducible refine gate_callee (f := 74) rfl ?_); refine ge_ (some 8) rfl rfl Try.func74 (by kernel_rfl) rfl #[.string a0] rfl (h := ?_); (with_reducible refine (utf_Valid.calls k a0 _ _ A1.out).mono ?_); rintro e w2 ⟨rfl, hb⟩; refine ⟨_, rfl, ?_⟩; replace HB := bs_ HB hb; clear hb) | ((with_reducible refine gate_dst (N := 4) rfl ?_); refine be_ (N := 4) (cs := #[.pointer none, .slice none 0 0]) (t := 117) (h := ?_); intro gb hg w3 hbox hb; have BK := Aside0.mk hbox; have GB := gw_ HB hg; replace HB := bs_ HB hb; clear hb hbox hg))
  have HT := Aside0.mk (bld_new GB.out BK.out)
  simp only [Act.put, List.setIfInBounds_toArray, List.set_cons_succ, List.set_cons_zero]
  clear BK
  go_loopg [0] k (fun kq v0 wr => ∃ (s t : ByteArray), v0 = .string s ∧ Aside0 (key_Parse.l0 kq s t = some (r1, r2)) ∧ Aside0 (kq ≤ k) ∧ Aside0 (bld w.heap.size gb t wr) ∧ Aside0 (Below w.heap.size w wr))
  case atStart => exact ⟨a0, ⟨#[]⟩, rfl, H', ⟨Nat.le_refl _⟩, HT, HB⟩
  case round =>
   clear HB HT H'
   obtain ⟨s, t, rfl, HA, HK, HT, HB⟩ := hrel
   cases gk with
   | zero => exact absurd HA.out (by simp [key_Parse.l0])
   | succ k1 =>
    have H := HA.out
    clear HA
    simp only [key_Parse.l0] at H
    by_cases c1 : s.toList = ([] : List UInt8)
    ·rw [if_pos c1] at H
     have c1b0 : (s.toList == ([] : List UInt8)) = true := beq_iff_eq.mpr c1
     have c1b1 : (s.toList != ([] : List UInt8)) = false := bne_eq_false_iff_eq.mpr c1
     clear c1
     obtain ⟨rfl, rfl⟩ : t = r1 ∧ (0 : Int) = r2 := by simpa using H
     go_wp2_with ((with_reducible refine gate_callee (f := 78) rfl ?_); refine ge_ (some 22) rfl rfl Try.func78 (by kernel_rfl) rfl #[.pointer (some ⟨gb, 0, none⟩)] rfl (h := ?_); (with_reducible refine (bld_text w.heap.size gb t _ HT.out HB.out.size).mono ?_); rintro e w5 ⟨rfl, hb⟩; refine ⟨_, rfl, ?_⟩; replace HB := Aside0.mk (HB.out.trans hb); clear hb HT)
     go_ret2
     exact ⟨er_, hb_ HB⟩
    ·rw [if_neg c1] at H
     have c1b0 : (s.toList == ([] : List UInt8)) = false := beq_eq_false_iff_ne.mpr c1
     have c1b1 : (s.toList != ([] : List UInt8)) = true := bne_iff_ne.mpr c1
     clear c1
     obtain ⟨⟨x, y⟩, A20, H⟩ := Option.bind_eq_some_iff.mp H
     replace H : (if x.toList = ([] : List UInt8) then some (⟨#[]⟩, 3) else if t.size + x.size ≤ 140737488355328 then key_Parse.l0 k1 y (t ++ x) else none) = some (r1, r2) := H
     have A2 := Aside0.mk A20
     clear A20
     by_cases c2 : x.toList = ([] : List UInt8)
     ·rw [if_pos c2] at H
      have c2b0 : (x.toList == ([] : List UInt8)) = true := beq_iff_eq.mpr c2
      clear c2
      obtain ⟨rfl, rfl⟩ : (⟨#[]⟩ : ByteArray) = r1 ∧ (3 : Int) = r2 := by simpa using H
      go_wp2_with ((with_reducible refine gate_callee (f := 76) rfl ?_); refine ge_ (some 14) rfl rfl Try.func76 (by kernel_rfl) rfl #[.string s] rfl (h := ?_); (with_reducible refine (key_named.calls k1 s x y _ A2.out).mono ?_); rintro e w5 ⟨rfl, hb⟩; refine ⟨_, rfl, ?_⟩; replace HB := bs_ HB hb; clear hb HT)
      go_ret2
      exact ⟨er_, hb_ HB⟩
     ·rw [if_neg c2] at H
      have c2b0 : (x.toList == ([] : List UInt8)) = false := beq_eq_false_iff_ne.mpr c2
      clear c2
      by_cases c3 : t.size + x.size ≤ 140737488355328
      ·rw [if_pos c3] at H
       have C3 := Aside0.mk c3
       have H2 := Aside0.mk H
       have HK2 := Aside0.mk (show k1 ≤ k by have := HK.out; omega)
       clear c3 H HK
       go_wp2_with (first | ((with_reducible refine gate_callee (f := 76) rfl ?_); refine ge_ (some 14) rfl rfl Try.func76 (by kernel_rfl) rfl #[.string s] rfl (h := ?_); (with_reducible refine (key_named.calls k1 s x y _ A2.out).mono ?_); rintro e w5 ⟨rfl, hb⟩; refine ⟨_, rfl, ?_⟩; replace HT := Aside0.mk (bld_below HT.out hb); replace HB := bs_ HB hb; clear hb) | ((with_reducible refine gate_callee (f := 77) rfl ?_); refine ge_ (some 20) rfl rfl Try.func77 (by kernel_rfl) rfl #[.pointer (some ⟨gb, 0, none⟩), .string x] rfl (h := ?_); (with_reducible refine (bld_write w.heap.size gb t x _ HT.out C3.out HB.out.size).mono ?_); rintro e w6 ⟨rfl, ht, hb⟩; refine ⟨_, rfl, ?_⟩; replace HT := Aside0.mk ht; replace HB := Aside0.mk (HB.out.trans hb); clear hb ht))
       go_roundg k1
       case measure => have := HK2.out; omega
       case rel => exact ⟨_, _, rfl, H2, HK2, HT, HB⟩
      ·rw [if_neg c3] at H
       exact absurd H (by simp)

end Go.Proofs.Ytealbonfaebikaa.PKeyTexts
