/- Of the law calamus/calamuslaw13.KeyTexts: each function as a plain Lean function, with a proof that the call comes to it; the row. By wip/tpl/own_print.py. Conditions: none but the row's own. -/
import Derived.Test.YtealbonfaebikaaOKeyTextsx0
import Derived.Test.YtealbonfaebikaaOKeyTextsx2
import Derived.Test.YtealbonfaebikaaOKeyTextsx4
import Derived.Test.YtealbonfaebikaaOKeyTextsx5
import Derived.Test.YtealbonfaebikaaOKeyTextsx6
namespace Go.Proofs.Ytealbonfaebikaa.PKeyTexts
open Go.RowKit Go.Proofs.YtealbonfaebikaaW.PrintWords Go.Proofs.YtealbonfaebikaaW.PrintLast Go.Proofs.YtealbonfaebikaaW.PrintMore
attribute [local go_sem] max2_int min2_int max_two min_two max_three min_three max_four min_four   -- for this text's walks alone
set_option linter.unusedVariables false
set_option linter.unusedSimpArgs false

/-! ### calamusref13_Same: function 50 -/
def calamusref13_Same.l0 : Nat → List ByteArray → List ByteArray → Int → Option (Bool)
 | 0, _, _, _ => none
 | k + 1, x0, x1, x5 => if x5 < (x0.length : Int) then (if 0 ≤ x5 then (if x5 < (x1.length : Int) then (if (rdOf ByteArray.empty x0 x5).toList = (rdOf ByteArray.empty x1 x5).toList then (calamusref13_Same.l0 k x0 x1 (wrap64 (x5 + 1))) else (some false)) else (none)) else (none)) else (some true)
def calamusref13_Same.f (k : Nat) (l0 : List ByteArray) (l1 : List ByteArray) : Option (Bool) := if (l0.length : Int) = (l1.length : Int) then (calamusref13_Same.l0 k l0 l1 0) else (some false)
theorem calamusref13_Same.mono_l : ∀ k, (∀ y0 y1 y2, LeO (calamusref13_Same.l0 k y0 y1 y2) (calamusref13_Same.l0 (k + 1) y0 y1 y2))
 | 0 => fun _ _ _ r h => by simp [calamusref13_Same.l0] at h
 | k + 1 => by
  have ih0 := calamusref13_Same.mono_l k
  ·intro y0 y1 y2
   unfold calamusref13_Same.l0
   repeat' first
   | (with_reducible exact ih0 _ _ _)
   | (with_reducible exact LeO.refl _)
   | (with_reducible exact LeO.none _)
   | (with_reducible refine LeO.ite ?_ ?_)
   | (with_reducible refine LeO.bind ?_ (fun _ => ?_))
   | exact ih0 _ _ _
   | exact LeO.none _
   | refine LeO.ite ?_ ?_
   | refine LeO.bind ?_ (fun _ => ?_)
theorem calamusref13_Same.mono : ∀ a0 a1 k, LeO (calamusref13_Same.f k a0 a1) (calamusref13_Same.f (k + 1) a0 a1) := by
 intro a0 a1 k
 have ih0 := calamusref13_Same.mono_l k
 unfold calamusref13_Same.f
 repeat' first
   | (with_reducible exact ih0 _ _ _)
   | (with_reducible exact LeO.refl _)
   | (with_reducible exact LeO.none _)
   | (with_reducible refine LeO.ite ?_ ?_)
   | (with_reducible refine LeO.bind ?_ (fun _ => ?_))
   | exact ih0 _ _ _
   | exact LeO.none _
   | refine LeO.ite ?_ ?_
   | refine LeO.bind ?_ (fun _ => ?_)
set_option maxHeartbeats 8000000 in
set_option maxRecDepth 100000 in
theorem calamusref13_Same.calls (k : Nat) (A0 : Option Addr) (c0 : Nat) (l0 : List ByteArray) (A1 : Option Addr) (c1 : Nat) (l1 : List ByteArray) (r : Bool) (w : World) (hr0 : Kd.C Kd.string w A0 l0.length l0) (hc0 : l0.length ≤ c0) (hr1 : Kd.C Kd.string w A1 l1.length l1) (hc1 : l1.length ≤ c1) (h : calamusref13_Same.f k l0 l1 = some r) :
  Calls Try.prog 50 #[.slice A0 l0.length c0, .slice A1 l1.length c1] w fun e w' => e = .returned (.bool r) ∧ Drawn0 w w' := by
 have HR0 := Aside0.mk hr0
 have HC0 := Aside0.mk hc0
 clear hr0 hc0
 have HR1 := Aside0.mk hr1
 have HC1 := Aside0.mk hc1
 clear hr1 hc1
 have H : (if (l0.length : Int) = (l1.length : Int) then (calamusref13_Same.l0 k l0 l1 0) else (some false)) = some r := h
 clear h
 by_cases c3 : (l0.length : Int) = (l1.length : Int)
 ·rw [if_pos c3] at H
  have c3b0 : ((l0.length : Int) == (l1.length : Int)) = true := beq_iff_eq.mpr c3
  have c3b1 : ((l0.length : Int) != (l1.length : Int)) = false := bne_eq_false_iff_eq.mpr c3
  have c3b2 : (l0.length == l1.length) = true := by first | simpa using c3 | (simp at c3 ⊢; omega)
  clear c3
  have H' := Aside0.mk H
  clear H
  go_enter Try.func50, Try.ntmps50
  go_wp2
  repeat (go_quiet (fail); try go_wp2)
  go_loopg [5] k (fun kq v5 w' => ∃ (x5_1 : Int), v5 = .int .i64 x5_1 ∧ Aside0 (calamusref13_Same.l0 kq l0 l1 x5_1 = some r) ∧ Aside0 (kq ≤ k) ∧ Drawn0 w w')
  case atStart => exact ⟨(0), es_, H', ⟨Nat.le_refl _⟩, by repeat (first | exact Drawn0.refl _ | apply Drawn0.step)⟩
  case round =>
   clear H'
   try clear c3
   try clear c3b0
   try clear c3b1
   try clear c3b2
   obtain ⟨x5_1, rfl, HA, HK1, ⟨m1, rfl⟩⟩ := hrel
   cases gk with
   | zero => exact absurd HA.out (by simp [calamusref13_Same.l0])
   | succ k1 =>
    have H := HA.out
    clear HA
    simp only [calamusref13_Same.l0] at H
    by_cases c4 : x5_1 < (l0.length : Int)
    ·rw [if_pos c4] at H
     have c4b0 : decide (x5_1 < (l0.length : Int)) = true := decide_eq_true c4
     clear c4
     by_cases c5 : 0 ≤ x5_1
     ·rw [if_pos c5] at H
      have c5b0 : decide (0 ≤ x5_1) = true := decide_eq_true c5
      clear c5
      by_cases c6 : x5_1 < (l1.length : Int)
      ·rw [if_pos c6] at H
       have c6b0 : decide (x5_1 < (l1.length : Int)) = true := decide_eq_true c6
       clear c6
       by_cases c7 : (rdOf ByteArray.empty l0 x5_1).toList = (rdOf ByteArray.empty l1 x5_1).toList
       ·rw [if_pos c7] at H
        have c7b0 : ((rdOf ByteArray.empty l0 x5_1).toList == (rdOf ByteArray.empty l1 x5_1).toList) = true := beq_iff_eq.mpr c7
        have c7b1 : ((rdOf ByteArray.empty l0 x5_1).toList != (rdOf ByteArray.empty l1 x5_1).toList) = false := bne_eq_false_iff_eq.mpr c7
        clear c7
        have H' := Aside0.mk H
        clear H
        have p187 : 0 ≤ (x5_1 : Int) := of_decide_eq_true as_
        have q187 : x5_1 < (l0.length : Int) := of_decide_eq_true as_
        obtain ⟨ad187, e187, hx187_0⟩ := Kd.at_string HR0.out x5_1 p187 q187
        cases e187
        replace p187 := eq_true p187
        replace q187 := eq_true q187
        have p188 : 0 ≤ (x5_1 : Int) := of_decide_eq_true as_
        have q188 : x5_1 < (l1.length : Int) := of_decide_eq_true as_
        obtain ⟨ad188, e188, hx188_0⟩ := Kd.at_string HR1.out x5_1 p188 q188
        cases e188
        replace p188 := eq_true p188
        replace q188 := eq_true q188
        go_wp2
        repeat (go_quiet (fail); try go_wp2)
        go_roundg k1
        case measure => have := HK1.out; omega
        case rel => exact ⟨(wrap64 (x5_1 + 1)), es_, H', ⟨by have := HK1.out; omega⟩, by repeat (first | exact Drawn0.refl _ | apply Drawn0.step)⟩
       ·rw [if_neg c7] at H
        have c7b0 : ((rdOf ByteArray.empty l0 x5_1).toList == (rdOf ByteArray.empty l1 x5_1).toList) = false := beq_eq_false_iff_ne.mpr c7
        have c7b1 : ((rdOf ByteArray.empty l0 x5_1).toList != (rdOf ByteArray.empty l1 x5_1).toList) = true := bne_iff_ne.mpr c7
        obtain rfl := Option.some.inj H
        have p187 : 0 ≤ (x5_1 : Int) := of_decide_eq_true as_
        have q187 : x5_1 < (l0.length : Int) := of_decide_eq_true as_
        obtain ⟨ad187, e187, hx187_0⟩ := Kd.at_string HR0.out x5_1 p187 q187
        cases e187
        replace p187 := eq_true p187
        replace q187 := eq_true q187
        have p188 : 0 ≤ (x5_1 : Int) := of_decide_eq_true as_
        have q188 : x5_1 < (l1.length : Int) := of_decide_eq_true as_
        obtain ⟨ad188, e188, hx188_0⟩ := Kd.at_string HR1.out x5_1 p188 q188
        cases e188
        replace p188 := eq_true p188
        replace q188 := eq_true q188
        go_wp2
        repeat (go_quiet (fail); try go_wp2)
        go_ret
        exact ⟨by first | rfl | (simp; done) | (simp [*]; done), by repeat (first | exact Drawn0.refl _ | apply Drawn0.step)⟩
      ·rw [if_neg c6] at H
       exact absurd H (by simp)
     ·rw [if_neg c5] at H
      exact absurd H (by simp)
    ·rw [if_neg c4] at H
     have c4b0 : decide (x5_1 < (l0.length : Int)) = false := decide_eq_false c4
     clear c4
     obtain rfl := Option.some.inj H
     go_wp2
     repeat (go_quiet (fail); try go_wp2)
     go_ret
     exact ⟨by first | rfl | (simp; done) | (simp [*]; done), by repeat (first | exact Drawn0.refl _ | apply Drawn0.step)⟩
 ·rw [if_neg c3] at H
  have c3b0 : ((l0.length : Int) == (l1.length : Int)) = false := beq_eq_false_iff_ne.mpr c3
  have c3b1 : ((l0.length : Int) != (l1.length : Int)) = true := bne_iff_ne.mpr c3
  have c3b2 : (l0.length == l1.length) = false := by first | simpa using c3 | (simp at c3 ⊢; omega)
  obtain rfl := Option.some.inj H
  go_enter Try.func50, Try.ntmps50
  go_wp2
  repeat (go_quiet (fail); try go_wp2)
  go_ret
  exact ⟨by first | rfl | (simp; done) | (simp [*]; done), by repeat (first | exact Drawn0.refl _ | apply Drawn0.step)⟩

/-! ### calamuslaw13_KeyTexts: function 11 -/
def calamuslaw13_KeyTexts.j0 : Nat → ByteArray → ByteArray → Bool → Option (Bool)
 | 0, _, _, _ => none
 | k + 1, x0, x1, x24 => if x24 = true then ((calamuslaw13_lives.f k).bind fun t189 => (some t189)) else ((key_Split.f k x0).bind fun bt190 => ((calamusref13_Split.f k x0).bind fun bt194 => ((key_Text.f k x0).bind fun bt198 => ((calamusref13_Text.f k x0).bind fun bt200 => ((key_Parse.f k x1).bind fun bt202 => ((calamusref13_Parse.f k x1).bind fun bt204 => ((calamusref13_Same.f k bt190.1 bt194.1).bind fun t206 => (if t206 = true then (if bt190.2 = bt194.2 then (if bt198.1.toList = bt200.1.toList then (if bt198.2 = bt200.2 then (if bt202.1.toList = bt204.1.toList then (if bt202.2 = bt204.2 then ((calamuslaw13_lives.f k).bind fun t207 => (some t207)) else (some false)) else (some false)) else (some false)) else (some false)) else (some false)) else (some false)))))))))
def calamuslaw13_KeyTexts.f (k : Nat) (a0 : ByteArray) (a1 : ByteArray) : Option (Bool) := if (a0.size : Int) > 1000 then (calamuslaw13_KeyTexts.j0 k a0 a1 true) else (calamuslaw13_KeyTexts.j0 k a0 a1 (decide ((a1.size : Int) > 1000)))
theorem calamuslaw13_KeyTexts.mono_l : ∀ k, (∀ y0 y1 y2, LeO (calamuslaw13_KeyTexts.j0 k y0 y1 y2) (calamuslaw13_KeyTexts.j0 (k + 1) y0 y1 y2))
 | 0 => fun _ _ _ r h => by simp [calamuslaw13_KeyTexts.j0] at h
 | k + 1 => by
  have ih0 := calamuslaw13_KeyTexts.mono_l k
  ·intro y0 y1 y2
   unfold calamuslaw13_KeyTexts.j0
   repeat' first
   | (with_reducible exact ih0 _ _ _)
   | (with_reducible exact calamuslaw13_lives.mono _)
   | (with_reducible exact calamusref13_Parse.mono _ _)
   | (with_reducible exact calamusref13_Same.mono _ _ _)
   | (with_reducible exact calamusref13_Split.mono _ _)
   | (with_reducible exact calamusref13_Text.mono _ _)
   | (with_reducible exact key_Parse.mono _ _)
   | (with_reducible exact key_Split.mono _ _)
   | (with_reducible exact key_Text.mono _ _)
   | (with_reducible exact LeO.refl _)
   | (with_reducible exact LeO.none _)
   | (with_reducible refine LeO.ite ?_ ?_)
   | (with_reducible refine LeO.bind ?_ (fun _ => ?_))
   | exact ih0 _ _ _
   | exact calamuslaw13_lives.mono _
   | exact calamusref13_Parse.mono _ _
   | exact calamusref13_Same.mono _ _ _
   | exact calamusref13_Split.mono _ _
   | exact calamusref13_Text.mono _ _
   | exact key_Parse.mono _ _
   | exact key_Split.mono _ _
   | exact key_Text.mono _ _
   | exact LeO.none _
   | refine LeO.ite ?_ ?_
   | refine LeO.bind ?_ (fun _ => ?_)
theorem calamuslaw13_KeyTexts.mono : ∀ a0 a1 k, LeO (calamuslaw13_KeyTexts.f k a0 a1) (calamuslaw13_KeyTexts.f (k + 1) a0 a1) := by
 intro a0 a1 k
 have ih0 := calamuslaw13_KeyTexts.mono_l k
 unfold calamuslaw13_KeyTexts.f
 repeat' first
   | (with_reducible exact ih0 _ _ _)
   | (with_reducible exact calamuslaw13_lives.mono _)
   | (with_reducible exact calamusref13_Parse.mono _ _)
   | (with_reducible exact calamusref13_Same.mono _ _ _)
   | (with_reducible exact calamusref13_Split.mono _ _)
   | (with_reducible exact calamusref13_Text.mono _ _)
   | (with_reducible exact key_Parse.mono _ _)
   | (with_reducible exact key_Split.mono _ _)
   | (with_reducible exact key_Text.mono _ _)
   | (with_reducible exact LeO.refl _)
   | (with_reducible exact LeO.none _)
   | (with_reducible refine LeO.ite ?_ ?_)
   | (with_reducible refine LeO.bind ?_ (fun _ => ?_))
   | exact ih0 _ _ _
   | exact calamuslaw13_lives.mono _
   | exact calamusref13_Parse.mono _ _
   | exact calamusref13_Same.mono _ _ _
   | exact calamusref13_Split.mono _ _
   | exact calamusref13_Text.mono _ _
   | exact key_Parse.mono _ _
   | exact key_Split.mono _ _
   | exact key_Text.mono _ _
   | exact LeO.none _
   | refine LeO.ite ?_ ?_
   | refine LeO.bind ?_ (fun _ => ?_)
set_option maxHeartbeats 8000000 in
set_option maxRecDepth 100000 in
theorem calamuslaw13_KeyTexts.calls (k : Nat) (a0 : ByteArray) (a1 : ByteArray) (r : Bool) (w : World) (h : calamuslaw13_KeyTexts.f k a0 a1 = some r) (hr_ : r = true := by rfl) :
  Calls Try.prog 11 #[.string a0, .string a1] w fun e w' => e = .returned (.bool r) ∧ Below w.heap.size w w' := by
 have HB := Aside0.mk (Below.refl w.heap.size w)
 have H : (if (a0.size : Int) > 1000 then (calamuslaw13_KeyTexts.j0 k a0 a1 true) else (calamuslaw13_KeyTexts.j0 k a0 a1 (decide ((a1.size : Int) > 1000)))) = some r := h
 clear h
 have HC3 := Aside0.mk H
 clear H
 go_enter Try.func11, Try.ntmps11
 go_upto_region 1 with (fail)
 go_cut [24] (fun v24 wc => ∃ (kq : Nat) (x24_2 : Bool), v24 = .bool x24_2 ∧ Aside0 (calamuslaw13_KeyTexts.j0 kq a0 a1 x24_2 = some r) ∧ Aside0 (kq ≤ k) ∧ Aside0 (Below w.heap.size w wc))
 case first =>
  have H := HC3.out
  clear HC3
  by_cases c4 : (a0.size : Int) > 1000
  ·rw [if_pos c4] at H
   have c4b0 : decide (1000 < (a0.size : Int)) = true := decide_eq_true c4
   have c4b1 : decide (1000 < a0.size) = true := decide_eq_true (by omega)
   clear c4
   (first | rw [c4b0] | (simp only [i64_w, i32_w]; rw [c4b0]) | skip)
   have H' := Aside0.mk H
   clear H
   go_wp2
   go_meet
   case rel => exact ⟨_, (true), es_, H', ⟨by first | omega | exact Nat.le_refl _⟩, ⟨hb_ HB⟩⟩
  ·rw [if_neg c4] at H
   have c4b0 : decide (1000 < (a0.size : Int)) = false := decide_eq_false c4
   have c4b1 : decide (1000 < a0.size) = false := decide_eq_false (by omega)
   clear c4
   (first | rw [c4b0] | (simp only [i64_w, i32_w]; rw [c4b0]) | skip)
   have H' := Aside0.mk H
   clear H
   go_wp2
   go_meet
   case rel => exact ⟨_, (decide ((a1.size : Int) > 1000)), es_, H', ⟨by first | omega | exact Nat.le_refl _⟩, ⟨hb_ HB⟩⟩
 case rest =>
  clear HC3
  obtain ⟨kq, x24_2, rfl, HA, HJ2, HB⟩ := hcut
  cases kq with
  | zero => exact absurd HA.out (by simp [calamuslaw13_KeyTexts.j0])
  | succ kj2 =>
   have H := HA.out
   clear HA
   simp only [calamuslaw13_KeyTexts.j0] at H
   by_cases c5 : x24_2 = true
   ·subst c5
    have H1 : ((calamuslaw13_lives.f kj2).bind fun t189 => (some t189)) = some r := by rw [if_pos rfl] at H; exact H
    clear H
    have H := H1
    clear H1
    replace H := Option.bind_eq_some_iff.mp H
    obtain ⟨t189, A60, H⟩ := H
    replace H : (some t189) = some r := H
    have A6 := Aside0.mk A60
    clear A60
    obtain rfl := Option.some.inj H
    go_wp2_with (first | ((with_reducible refine gate_callee (f := 43) rfl ?_); refine ge_ (some 25) rfl rfl Try.func43 (by kernel_rfl) rfl #[] rfl (h := ?_); (with_reducible refine (calamuslaw13_lives.calls kj2  t189 _ A6.out).mono ?_); rintro e w7 ⟨rfl, hb⟩; refine ⟨_, rfl, ?_⟩; replace HB := bs_ HB hb; (try clear hb); (try clear hb2); (try clear hk); (try clear hi)))
    go_ret
    exact ⟨er_, hb_ HB⟩
   ·replace c5 := Bool.eq_false_iff.mpr c5
    subst c5
    have H1 : ((key_Split.f kj2 a0).bind fun bt190 => ((calamusref13_Split.f kj2 a0).bind fun bt194 => ((key_Text.f kj2 a0).bind fun bt198 => ((calamusref13_Text.f kj2 a0).bind fun bt200 => ((key_Parse.f kj2 a1).bind fun bt202 => ((calamusref13_Parse.f kj2 a1).bind fun bt204 => ((calamusref13_Same.f kj2 bt190.1 bt194.1).bind fun t206 => (if t206 = true then (if bt190.2 = bt194.2 then (if bt198.1.toList = bt200.1.toList then (if bt198.2 = bt200.2 then (if bt202.1.toList = bt204.1.toList then (if bt202.2 = bt204.2 then ((calamuslaw13_lives.f kj2).bind fun t207 => (some t207)) else (some false)) else (some false)) else (some false)) else (some false)) else (some false)) else (some false))))))))) = some r := by rw [if_neg (show ¬ (false = true) by decide)] at H; exact H
    clear H
    have H := H1
    clear H1
    replace H := Option.bind_eq_some_iff.mp H
    obtain ⟨⟨t190, t191⟩, A80, H⟩ := H
    replace H : ((calamusref13_Split.f kj2 a0).bind fun bt194 => ((key_Text.f kj2 a0).bind fun bt198 => ((calamusref13_Text.f kj2 a0).bind fun bt200 => ((key_Parse.f kj2 a1).bind fun bt202 => ((calamusref13_Parse.f kj2 a1).bind fun bt204 => ((calamusref13_Same.f kj2 t190 bt194.1).bind fun t206 => (if t206 = true then (if t191 = bt194.2 then (if bt198.1.toList = bt200.1.toList then (if bt198.2 = bt200.2 then (if bt202.1.toList = bt204.1.toList then (if bt202.2 = bt204.2 then ((calamuslaw13_lives.f kj2).bind fun t207 => (some t207)) else (some false)) else (some false)) else (some false)) else (some false)) else (some false)) else (some false)))))))) = some r := H
    have A8 := Aside0.mk A80
    clear A80
    replace H := Option.bind_eq_some_iff.mp H
    obtain ⟨⟨t194, t195⟩, A90, H⟩ := H
    replace H : ((key_Text.f kj2 a0).bind fun bt198 => ((calamusref13_Text.f kj2 a0).bind fun bt200 => ((key_Parse.f kj2 a1).bind fun bt202 => ((calamusref13_Parse.f kj2 a1).bind fun bt204 => ((calamusref13_Same.f kj2 t190 t194).bind fun t206 => (if t206 = true then (if t191 = t195 then (if bt198.1.toList = bt200.1.toList then (if bt198.2 = bt200.2 then (if bt202.1.toList = bt204.1.toList then (if bt202.2 = bt204.2 then ((calamuslaw13_lives.f kj2).bind fun t207 => (some t207)) else (some false)) else (some false)) else (some false)) else (some false)) else (some false)) else (some false))))))) = some r := H
    have A9 := Aside0.mk A90
    clear A90
    replace H := Option.bind_eq_some_iff.mp H
    obtain ⟨⟨t198, t199⟩, A100, H⟩ := H
    replace H : ((calamusref13_Text.f kj2 a0).bind fun bt200 => ((key_Parse.f kj2 a1).bind fun bt202 => ((calamusref13_Parse.f kj2 a1).bind fun bt204 => ((calamusref13_Same.f kj2 t190 t194).bind fun t206 => (if t206 = true then (if t191 = t195 then (if t198.toList = bt200.1.toList then (if t199 = bt200.2 then (if bt202.1.toList = bt204.1.toList then (if bt202.2 = bt204.2 then ((calamuslaw13_lives.f kj2).bind fun t207 => (some t207)) else (some false)) else (some false)) else (some false)) else (some false)) else (some false)) else (some false)))))) = some r := H
    have A10 := Aside0.mk A100
    clear A100
    replace H := Option.bind_eq_some_iff.mp H
    obtain ⟨⟨t200, t201⟩, A110, H⟩ := H
    replace H : ((key_Parse.f kj2 a1).bind fun bt202 => ((calamusref13_Parse.f kj2 a1).bind fun bt204 => ((calamusref13_Same.f kj2 t190 t194).bind fun t206 => (if t206 = true then (if t191 = t195 then (if t198.toList = t200.toList then (if t199 = t201 then (if bt202.1.toList = bt204.1.toList then (if bt202.2 = bt204.2 then ((calamuslaw13_lives.f kj2).bind fun t207 => (some t207)) else (some false)) else (some false)) else (some false)) else (some false)) else (some false)) else (some false))))) = some r := H
    have A11 := Aside0.mk A110
    clear A110
    replace H := Option.bind_eq_some_iff.mp H
    obtain ⟨⟨t202, t203⟩, A120, H⟩ := H
    replace H : ((calamusref13_Parse.f kj2 a1).bind fun bt204 => ((calamusref13_Same.f kj2 t190 t194).bind fun t206 => (if t206 = true then (if t191 = t195 then (if t198.toList = t200.toList then (if t199 = t201 then (if t202.toList = bt204.1.toList then (if t203 = bt204.2 then ((calamuslaw13_lives.f kj2).bind fun t207 => (some t207)) else (some false)) else (some false)) else (some false)) else (some false)) else (some false)) else (some false)))) = some r := H
    have A12 := Aside0.mk A120
    clear A120
    replace H := Option.bind_eq_some_iff.mp H
    obtain ⟨⟨t204, t205⟩, A130, H⟩ := H
    replace H : ((calamusref13_Same.f kj2 t190 t194).bind fun t206 => (if t206 = true then (if t191 = t195 then (if t198.toList = t200.toList then (if t199 = t201 then (if t202.toList = t204.toList then (if t203 = t205 then ((calamuslaw13_lives.f kj2).bind fun t207 => (some t207)) else (some false)) else (some false)) else (some false)) else (some false)) else (some false)) else (some false))) = some r := H
    have A13 := Aside0.mk A130
    clear A130
    replace H := Option.bind_eq_some_iff.mp H
    obtain ⟨t206, A140, H⟩ := H
    replace H : (if t206 = true then (if t191 = t195 then (if t198.toList = t200.toList then (if t199 = t201 then (if t202.toList = t204.toList then (if t203 = t205 then ((calamuslaw13_lives.f kj2).bind fun t207 => (some t207)) else (some false)) else (some false)) else (some false)) else (some false)) else (some false)) else (some false)) = some r := H
    have A14 := Aside0.mk A140
    clear A140
    by_cases c15 : t206 = true
    ·subst c15
     have H1 : (if t191 = t195 then (if t198.toList = t200.toList then (if t199 = t201 then (if t202.toList = t204.toList then (if t203 = t205 then ((calamuslaw13_lives.f kj2).bind fun t207 => (some t207)) else (some false)) else (some false)) else (some false)) else (some false)) else (some false)) = some r := by rw [if_pos rfl] at H; exact H
     clear H
     have H := H1
     clear H1
     by_cases c16 : t191 = t195
     ·rw [if_pos c16] at H
      have c16b0 : (t191 == t195) = true := beq_iff_eq.mpr c16
      have c16b1 : (t191 != t195) = false := bne_eq_false_iff_eq.mpr c16
      clear c16
      by_cases c17 : t198.toList = t200.toList
      ·rw [if_pos c17] at H
       have c17b0 : (t198.toList == t200.toList) = true := beq_iff_eq.mpr c17
       have c17b1 : (t198.toList != t200.toList) = false := bne_eq_false_iff_eq.mpr c17
       clear c17
       by_cases c18 : t199 = t201
       ·rw [if_pos c18] at H
        have c18b0 : (t199 == t201) = true := beq_iff_eq.mpr c18
        have c18b1 : (t199 != t201) = false := bne_eq_false_iff_eq.mpr c18
        clear c18
        by_cases c19 : t202.toList = t204.toList
        ·rw [if_pos c19] at H
         have c19b0 : (t202.toList == t204.toList) = true := beq_iff_eq.mpr c19
         have c19b1 : (t202.toList != t204.toList) = false := bne_eq_false_iff_eq.mpr c19
         clear c19
         by_cases c20 : t203 = t205
         ·rw [if_pos c20] at H
          have c20b0 : (t203 == t205) = true := beq_iff_eq.mpr c20
          have c20b1 : (t203 != t205) = false := bne_eq_false_iff_eq.mpr c20
          clear c20
          replace H := Option.bind_eq_some_iff.mp H
          obtain ⟨t207, A210, H⟩ := H
          replace H : (some t207) = some r := H
          have A21 := Aside0.mk A210
          clear A210
          obtain rfl := Option.some.inj H
          go_wp2_with (first | ((with_reducible refine gate_callee (f := 45) rfl ?_); refine ge_ (some 28) rfl rfl Try.func45 (by kernel_rfl) rfl #[.string a0] rfl (h := ?_); (with_reducible refine (key_Split.calls kj2 a0 t190 t191 _ A8.out).mono ?_); rintro e w22 ⟨v192, rfl, ho0, hb⟩; refine ⟨_, rfl, ?_⟩; have HO193 := Aside0.mk (Kd.R_lower ho0 (below_size (hb_ HB))); replace HB := bs_ HB hb; (try clear hb); (try clear hb2); (try clear hk); (try clear hi); (try clear ho0)) | ((with_reducible refine gate_callee (f := 46) rfl ?_); refine ge_ (some 33) rfl rfl Try.func46 (by kernel_rfl) rfl #[.string a0] rfl (h := ?_); (with_reducible refine (calamusref13_Split.calls kj2 a0 t194 t195 _ A9.out).mono ?_); rintro e w23 ⟨v196, rfl, ho0, hb⟩; refine ⟨_, rfl, ?_⟩; have HO197 := Aside0.mk (Kd.R_lower (Kd.R_new' ho0 (Kd.R_lt (rw_ HO193.out))) (below_size (hb_ HB))); replace HO193 := Aside0.mk (Kd.R_elder' (rw_ HO193.out) (Kd.R_base ho0) hb); replace HB := bs_ HB hb; (try clear hb); (try clear hb2); (try clear hk); (try clear hi); (try clear ho0)) | ((with_reducible refine gate_callee (f := 44) rfl ?_); refine ge_ (some 38) rfl rfl Try.func44 (by kernel_rfl) rfl #[.string a0] rfl (h := ?_); (with_reducible refine (key_Text.calls kj2 a0 t198 t199 _ A10.out).mono ?_); rintro e w24 ⟨rfl, hb⟩; refine ⟨_, rfl, ?_⟩; replace HO193 := Aside0.mk (Kd.R_below (rw_ HO193.out) hb); replace HO197 := Aside0.mk (Kd.R_below (rw_ HO197.out) hb); replace HB := bs_ HB hb; (try clear hb); (try clear hb2); (try clear hk); (try clear hi)) | ((with_reducible refine gate_callee (f := 47) rfl ?_); refine ge_ (some 43) rfl rfl Try.func47 (by kernel_rfl) rfl #[.string a0] rfl (h := ?_); (with_reducible refine (calamusref13_Text.calls kj2 a0 t200 t201 _ A11.out).mono ?_); rintro e w25 ⟨rfl, hb⟩; refine ⟨_, rfl, ?_⟩; replace HO193 := Aside0.mk (Kd.R_below (rw_ HO193.out) hb); replace HO197 := Aside0.mk (Kd.R_below (rw_ HO197.out) hb); replace HB := bs_ HB hb; (try clear hb); (try clear hb2); (try clear hk); (try clear hi)) | ((with_reducible refine gate_callee (f := 48) rfl ?_); refine ge_ (some 48) rfl rfl Try.func48 (by kernel_rfl) rfl #[.string a1] rfl (h := ?_); (with_reducible refine (key_Parse.calls kj2 a1 t202 t203 _ A12.out).mono ?_); rintro e w26 ⟨rfl, hb⟩; refine ⟨_, rfl, ?_⟩; replace HO193 := Aside0.mk (Kd.R_below (rw_ HO193.out) hb); replace HO197 := Aside0.mk (Kd.R_below (rw_ HO197.out) hb); replace HB := bs_ HB hb; (try clear hb); (try clear hb2); (try clear hk); (try clear hi)) | ((with_reducible refine gate_callee (f := 49) rfl ?_); refine ge_ (some 53) rfl rfl Try.func49 (by kernel_rfl) rfl #[.string a1] rfl (h := ?_); (with_reducible refine (calamusref13_Parse.calls kj2 a1 t204 t205 _ A13.out).mono ?_); rintro e w27 ⟨rfl, hb⟩; refine ⟨_, rfl, ?_⟩; replace HO193 := Aside0.mk (Kd.R_below (rw_ HO193.out) hb); replace HO197 := Aside0.mk (Kd.R_below (rw_ HO197.out) hb); replace HB := bs_ HB hb; (try clear hb); (try clear hb2); (try clear hk); (try clear hi); obtain ⟨Ao28, co28, eo28⟩ := Kd.R_slice HO193.out; subst eo28; obtain ⟨Ao29, co29, eo29⟩ := Kd.R_slice HO197.out; subst eo29) | ((with_reducible refine gate_callee (f := 50) rfl ?_); refine ge_ (some 58) rfl rfl Try.func50 (by kernel_rfl) rfl #[.slice Ao28 t190.length co28, .slice Ao29 t194.length co29] rfl (h := ?_); (with_reducible refine (calamusref13_Same.calls kj2 _ _ t190 _ _ t194 true _ ?side1 ?side2 ?side3 ?side4 A14.out).mono ?_); (case side1 => repeat (first | exact (Kd.R_reads' HO193.out).2.2 | (with_reducible refine Kd.C_alloc ?_ _) | (with_reducible refine Kd.C_drewN ?_ _) | (with_reducible refine Kd.C_drew ?_))); (case side2 => exact (Kd.R_reads' HO193.out).2.1); (case side3 => repeat (first | exact (Kd.R_reads' HO197.out).2.2 | (with_reducible refine Kd.C_alloc ?_ _) | (with_reducible refine Kd.C_drewN ?_ _) | (with_reducible refine Kd.C_drew ?_))); (case side4 => exact (Kd.R_reads' HO197.out).2.1); rintro e w' ⟨rfl, ⟨nd, rfl⟩⟩; refine ⟨_, rfl, ?_⟩) | (go_at_call 43; (with_reducible refine (calamuslaw13_lives.calls kj2  t207 _ A21.out).mono ?_); rintro e w30 ⟨rfl, hb⟩; replace HO193 := Aside0.mk (Kd.R_below (rw_ HO193.out) hb); replace HO197 := Aside0.mk (Kd.R_below (rw_ HO197.out) hb); replace HB := bs_ HB hb; (try clear hb); (try clear hb2); (try clear hk); (try clear hi)))
          go_ret
          exact ⟨er_, hb_ HB⟩
         ·rw [if_neg c20] at H
          have c20b0 : (t203 == t205) = false := beq_eq_false_iff_ne.mpr c20
          have c20b1 : (t203 != t205) = true := bne_iff_ne.mpr c20
          exact nf_ H hr_
        ·rw [if_neg c19] at H
         have c19b0 : (t202.toList == t204.toList) = false := beq_eq_false_iff_ne.mpr c19
         have c19b1 : (t202.toList != t204.toList) = true := bne_iff_ne.mpr c19
         exact nf_ H hr_
       ·rw [if_neg c18] at H
        have c18b0 : (t199 == t201) = false := beq_eq_false_iff_ne.mpr c18
        have c18b1 : (t199 != t201) = true := bne_iff_ne.mpr c18
        exact nf_ H hr_
      ·rw [if_neg c17] at H
       have c17b0 : (t198.toList == t200.toList) = false := beq_eq_false_iff_ne.mpr c17
       have c17b1 : (t198.toList != t200.toList) = true := bne_iff_ne.mpr c17
       exact nf_ H hr_
     ·rw [if_neg c16] at H
      have c16b0 : (t191 == t195) = false := beq_eq_false_iff_ne.mpr c16
      have c16b1 : (t191 != t195) = true := bne_iff_ne.mpr c16
      exact nf_ H hr_
    ·replace c15 := Bool.eq_false_iff.mpr c15
     subst c15
     have H1 : (some false) = some r := by rw [if_neg (show ¬ (false = true) by decide)] at H; exact H
     clear H
     have H := H1
     clear H1
     exact nf_ H hr_
/-- THE ONE PURE STATEMENT of calamuslaw13_KeyTexts: yours. -/
def calamuslaw13_KeyTexts.Pure : Prop := ∀ (a0 : ByteArray) (a1 : ByteArray), a0.size ≤ 140737488351232 → a1.size ≤ 140737488351232 → ∃ k, calamuslaw13_KeyTexts.f k a0 a1 = some true
theorem calamuslaw13_KeyTexts.walk (P : calamuslaw13_KeyTexts.Pure) (a0 : ByteArray) (a1 : ByteArray) (w : World) (w0 : a0.size ≤ 140737488351232) (w1 : a1.size ≤ 140737488351232) :
  Calls Try.prog 11 #[.string a0, .string a1] w fun e w' => e = .returned (.bool true) ∧ Below w.heap.size w w' := by
 obtain ⟨k, h⟩ := P a0 a1 w0 w1
 refine (calamuslaw13_KeyTexts.calls k a0 a1 true w h).mono ?_
 rintro e w' ⟨rfl, hd⟩
 exact ⟨rfl, hd⟩

end Go.Proofs.Ytealbonfaebikaa.PKeyTexts
