/- Of the law calamus/calamuslaw13.KeyJoins: each function as a plain Lean function, with a proof that the call comes to it; the row. By wip/tpl/own_print.py. Conditions: none but the row's own. -/
import Derived.Test.YtealbonfaebikaaOKeyJoinsx0
import Derived.Test.YtealbonfaebikaaOKeyJoinsx2
namespace Go.Proofs.Ytealbonfaebikaa.PKeyJoins
open Go.RowKit Go.Proofs.YtealbonfaebikaaW.PrintWords Go.Proofs.YtealbonfaebikaaW.PrintLast Go.Proofs.YtealbonfaebikaaW.PrintMore
attribute [local go_sem] max2_int min2_int max_two min_two max_three min_three max_four min_four   -- for this text's walks alone
set_option linter.unusedVariables false
set_option linter.unusedSimpArgs false

/-! ### calamuslaw13_KeyJoins: function 10 -/
mutual
def calamuslaw13_KeyJoins.j0 : Nat → ByteArray → ByteArray → Bool → Option (Bool)
 | 0, _, _, _ => none
 | k + 1, x0, x1, x22 => if x22 = true then ((calamuslaw13_lives.f k).bind fun t121 => (some t121)) else ((key_Text.f k x0).bind fun bt122 => ((key_Text.f k x1).bind fun bt124 => (if bt122.2 = 0 then (calamuslaw13_KeyJoins.j1 k x0 x1 bt122.1 bt122.2 bt124.1 bt124.2 (bt124.2 != 0)) else (calamuslaw13_KeyJoins.j1 k x0 x1 bt122.1 bt122.2 bt124.1 bt124.2 true))))
def calamuslaw13_KeyJoins.j1 : Nat → ByteArray → ByteArray → ByteArray → Int → ByteArray → Int → Bool → Option (Bool)
 | 0, _, _, _, _, _, _, _ => none
 | k + 1, x0, x1, x5, x6, x7, x8, x39 => if x39 = true then (if x6 = 0 then (if x8 = 0 then ((calamuslaw13_lives.f k).bind fun t126 => (some t126)) else (if x7.toList = ([] : List UInt8) then ((calamuslaw13_lives.f k).bind fun t127 => (some t127)) else (some false))) else (if x5.toList = ([] : List UInt8) then (if x8 = 0 then ((calamuslaw13_lives.f k).bind fun t128 => (some t128)) else (if x7.toList = ([] : List UInt8) then ((calamuslaw13_lives.f k).bind fun t129 => (some t129)) else (some false))) else (some false))) else (if x0.size + x1.size ≤ 9223372036854775807 then ((key_Text.f k (x0 ++ x1)).bind fun bt130 => ((key_Split.f k (x0 ++ x1)).bind fun bt132 => (calamuslaw13_KeyJoins.l0 k x0 x1 x5 x7 bt130.1 bt130.2 bt132.1 bt132.2 (⟨#[]⟩ : ByteArray) 0))) else (none))
def calamuslaw13_KeyJoins.l0 : Nat → ByteArray → ByteArray → ByteArray → ByteArray → ByteArray → Int → List ByteArray → Int → ByteArray → Int → Option (Bool)
 | 0, _, _, _, _, _, _, _, _, _, _ => none
 | k + 1, x0, x1, x5, x7, x9, x10, x11, x12, x13, x14 => if x14 < (x11.length : Int) then (if 0 ≤ x14 then ((key_Right.f k (rdOf ByteArray.empty x11 x14)).bind fun t137 => (if t137 = true then (if x13.size + (rdOf ByteArray.empty x11 x14).size ≤ 9223372036854775807 then (calamuslaw13_KeyJoins.l0 k x0 x1 x5 x7 x9 x10 x11 x12 (x13 ++ (rdOf ByteArray.empty x11 x14)) (wrap64 (x14 + 1))) else (none)) else (some false))) else (none)) else (if x5.size + x7.size ≤ 9223372036854775807 then (if x9.toList = (x5 ++ x7).toList then (if x10 = 0 then (if x12 = 0 then (if x0.size + x1.size ≤ 9223372036854775807 then (if x13.toList = (x0 ++ x1).toList then ((calamuslaw13_lives.f k).bind fun t139 => (some t139)) else (some false)) else (none)) else (some false)) else (some false)) else (some false)) else (none))
end
def calamuslaw13_KeyJoins.f (k : Nat) (a0 : ByteArray) (a1 : ByteArray) : Option (Bool) := if (a0.size : Int) > 1000 then (calamuslaw13_KeyJoins.j0 k a0 a1 true) else (calamuslaw13_KeyJoins.j0 k a0 a1 (decide ((a1.size : Int) > 1000)))
theorem calamuslaw13_KeyJoins.mono_l : ∀ k, (∀ y0 y1 y2, LeO (calamuslaw13_KeyJoins.j0 k y0 y1 y2) (calamuslaw13_KeyJoins.j0 (k + 1) y0 y1 y2)) ∧ (∀ y0 y1 y2 y3 y4 y5 y6, LeO (calamuslaw13_KeyJoins.j1 k y0 y1 y2 y3 y4 y5 y6) (calamuslaw13_KeyJoins.j1 (k + 1) y0 y1 y2 y3 y4 y5 y6)) ∧ (∀ y0 y1 y2 y3 y4 y5 y6 y7 y8 y9, LeO (calamuslaw13_KeyJoins.l0 k y0 y1 y2 y3 y4 y5 y6 y7 y8 y9) (calamuslaw13_KeyJoins.l0 (k + 1) y0 y1 y2 y3 y4 y5 y6 y7 y8 y9))
 | 0 => ⟨fun _ _ _ r h => by simp [calamuslaw13_KeyJoins.j0] at h, fun _ _ _ _ _ _ _ r h => by simp [calamuslaw13_KeyJoins.j1] at h, fun _ _ _ _ _ _ _ _ _ _ r h => by simp [calamuslaw13_KeyJoins.l0] at h⟩
 | k + 1 => by
  obtain ⟨ih0, ih1, ih2⟩ := calamuslaw13_KeyJoins.mono_l k
  refine ⟨?_, ?_, ?_⟩
  ·intro y0 y1 y2
   unfold calamuslaw13_KeyJoins.j0
   repeat' first
   | (with_reducible exact ih0 _ _ _)
   | (with_reducible exact ih1 _ _ _ _ _ _ _)
   | (with_reducible exact ih2 _ _ _ _ _ _ _ _ _ _)
   | (with_reducible exact calamuslaw13_lives.mono _)
   | (with_reducible exact key_Right.mono _ _)
   | (with_reducible exact key_Split.mono _ _)
   | (with_reducible exact key_Text.mono _ _)
   | (with_reducible exact LeO.refl _)
   | (with_reducible exact LeO.none _)
   | (with_reducible refine LeO.ite ?_ ?_)
   | (with_reducible refine LeO.bind ?_ (fun _ => ?_))
   | exact ih0 _ _ _
   | exact ih1 _ _ _ _ _ _ _
   | exact ih2 _ _ _ _ _ _ _ _ _ _
   | exact calamuslaw13_lives.mono _
   | exact key_Right.mono _ _
   | exact key_Split.mono _ _
   | exact key_Text.mono _ _
   | exact LeO.none _
   | refine LeO.ite ?_ ?_
   | refine LeO.bind ?_ (fun _ => ?_)
  ·intro y0 y1 y2 y3 y4 y5 y6
   unfold calamuslaw13_KeyJoins.j1
   repeat' first
   | (with_reducible exact ih0 _ _ _)
   | (with_reducible exact ih1 _ _ _ _ _ _ _)
   | (with_reducible exact ih2 _ _ _ _ _ _ _ _ _ _)
   | (with_reducible exact calamuslaw13_lives.mono _)
   | (with_reducible exact key_Right.mono _ _)
   | (with_reducible exact key_Split.mono _ _)
   | (with_reducible exact key_Text.mono _ _)
   | (with_reducible exact LeO.refl _)
   | (with_reducible exact LeO.none _)
   | (with_reducible refine LeO.ite ?_ ?_)
   | (with_reducible refine LeO.bind ?_ (fun _ => ?_))
   | exact ih0 _ _ _
   | exact ih1 _ _ _ _ _ _ _
   | exact ih2 _ _ _ _ _ _ _ _ _ _
   | exact calamuslaw13_lives.mono _
   | exact key_Right.mono _ _
   | exact key_Split.mono _ _
   | exact key_Text.mono _ _
   | exact LeO.none _
   | refine LeO.ite ?_ ?_
   | refine LeO.bind ?_ (fun _ => ?_)
  ·intro y0 y1 y2 y3 y4 y5 y6 y7 y8 y9
   unfold calamuslaw13_KeyJoins.l0
   repeat' first
   | (with_reducible exact ih0 _ _ _)
   | (with_reducible exact ih1 _ _ _ _ _ _ _)
   | (with_reducible exact ih2 _ _ _ _ _ _ _ _ _ _)
   | (with_reducible exact calamuslaw13_lives.mono _)
   | (with_reducible exact key_Right.mono _ _)
   | (with_reducible exact key_Split.mono _ _)
   | (with_reducible exact key_Text.mono _ _)
   | (with_reducible exact LeO.refl _)
   | (with_reducible exact LeO.none _)
   | (with_reducible refine LeO.ite ?_ ?_)
   | (with_reducible refine LeO.bind ?_ (fun _ => ?_))
   | exact ih0 _ _ _
   | exact ih1 _ _ _ _ _ _ _
   | exact ih2 _ _ _ _ _ _ _ _ _ _
   | exact calamuslaw13_lives.mono _
   | exact key_Right.mono _ _
   | exact key_Split.mono _ _
   | exact key_Text.mono _ _
   | exact LeO.none _
   | refine LeO.ite ?_ ?_
   | refine LeO.bind ?_ (fun _ => ?_)
theorem calamuslaw13_KeyJoins.mono : ∀ a0 a1 k, LeO (calamuslaw13_KeyJoins.f k a0 a1) (calamuslaw13_KeyJoins.f (k + 1) a0 a1) := by
 intro a0 a1 k
 obtain ⟨ih0, ih1, ih2⟩ := calamuslaw13_KeyJoins.mono_l k
 unfold calamuslaw13_KeyJoins.f
 repeat' first
   | (with_reducible exact ih0 _ _ _)
   | (with_reducible exact ih1 _ _ _ _ _ _ _)
   | (with_reducible exact ih2 _ _ _ _ _ _ _ _ _ _)
   | (with_reducible exact calamuslaw13_lives.mono _)
   | (with_reducible exact key_Right.mono _ _)
   | (with_reducible exact key_Split.mono _ _)
   | (with_reducible exact key_Text.mono _ _)
   | (with_reducible exact LeO.refl _)
   | (with_reducible exact LeO.none _)
   | (with_reducible refine LeO.ite ?_ ?_)
   | (with_reducible refine LeO.bind ?_ (fun _ => ?_))
   | exact ih0 _ _ _
   | exact ih1 _ _ _ _ _ _ _
   | exact ih2 _ _ _ _ _ _ _ _ _ _
   | exact calamuslaw13_lives.mono _
   | exact key_Right.mono _ _
   | exact key_Split.mono _ _
   | exact key_Text.mono _ _
   | exact LeO.none _
   | refine LeO.ite ?_ ?_
   | refine LeO.bind ?_ (fun _ => ?_)
set_option maxHeartbeats 8000000 in
set_option maxRecDepth 100000 in
theorem calamuslaw13_KeyJoins.calls (k : Nat) (a0 : ByteArray) (a1 : ByteArray) (r : Bool) (w : World) (h : calamuslaw13_KeyJoins.f k a0 a1 = some r) (hr_ : r = true := by rfl) :
  Calls Try.prog 10 #[.string a0, .string a1] w fun e w' => e = .returned (.bool r) ∧ Below w.heap.size w w' := by
 have HB := Aside0.mk (Below.refl w.heap.size w)
 have H : (if (a0.size : Int) > 1000 then (calamuslaw13_KeyJoins.j0 k a0 a1 true) else (calamuslaw13_KeyJoins.j0 k a0 a1 (decide ((a1.size : Int) > 1000)))) = some r := h
 clear h
 have HC3 := Aside0.mk H
 clear H
 go_enter Try.func10, Try.ntmps10
 go_upto_region 1 with (fail)
 go_cut [22] (fun v22 wc => ∃ (kq : Nat) (x22_2 : Bool), v22 = .bool x22_2 ∧ Aside0 (calamuslaw13_KeyJoins.j0 kq a0 a1 x22_2 = some r) ∧ Aside0 (kq ≤ k) ∧ Aside0 (Below w.heap.size w wc))
 case first =>
  have H := HC3.out
  clear HC3
  by_cases c4 : (a0.size : Int) > 1000
  ·rw [if_pos c4] at H
   have c4b0 : decide (1000 < (a0.size : Int)) = true := decide_eq_true c4
   have c4b1 : decide (1000 < a0.size) = true := decide_eq_true (by omega)
   clear c4
   (first | rw [c4b0] | (simp only [i64_w, i32_w]; rw [c4b0]) | skip)
   have H' := Aside0.mk H
   clear H
   go_wp2
   go_meet
   case rel => exact ⟨_, (true), es_, H', ⟨by first | omega | exact Nat.le_refl _⟩, ⟨hb_ HB⟩⟩
  ·rw [if_neg c4] at H
   have c4b0 : decide (1000 < (a0.size : Int)) = false := decide_eq_false c4
   have c4b1 : decide (1000 < a0.size) = false := decide_eq_false (by omega)
   clear c4
   (first | rw [c4b0] | (simp only [i64_w, i32_w]; rw [c4b0]) | skip)
   have H' := Aside0.mk H
   clear H
   go_wp2
   go_meet
   case rel => exact ⟨_, (decide ((a1.size : Int) > 1000)), es_, H', ⟨by first | omega | exact Nat.le_refl _⟩, ⟨hb_ HB⟩⟩
 case rest =>
  clear HC3
  obtain ⟨kq, x22_2, rfl, HA, HJ2, HB⟩ := hcut
  cases kq with
  | zero => exact absurd HA.out (by simp [calamuslaw13_KeyJoins.j0])
  | succ kj2 =>
   have H := HA.out
   clear HA
   simp only [calamuslaw13_KeyJoins.j0] at H
   by_cases c5 : x22_2 = true
   ·subst c5
    have H1 : ((calamuslaw13_lives.f kj2).bind fun t121 => (some t121)) = some r := by rw [if_pos rfl] at H; exact H
    clear H
    have H := H1
    clear H1
    replace H := Option.bind_eq_some_iff.mp H
    obtain ⟨t121, A60, H⟩ := H
    replace H : (some t121) = some r := H
    have A6 := Aside0.mk A60
    clear A60
    obtain rfl := Option.some.inj H
    go_wp2_with (first | ((with_reducible refine gate_callee (f := 43) rfl ?_); refine ge_ (some 23) rfl rfl Try.func43 (by kernel_rfl) rfl #[] rfl (h := ?_); (with_reducible refine (calamuslaw13_lives.calls kj2  t121 _ A6.out).mono ?_); rintro e w7 ⟨rfl, hb⟩; refine ⟨_, rfl, ?_⟩; replace HB := bs_ HB hb; (try clear hb); (try clear hb2); (try clear hk); (try clear hi)))
    go_ret
    exact ⟨er_, hb_ HB⟩
   ·replace c5 := Bool.eq_false_iff.mpr c5
    subst c5
    have H1 : ((key_Text.f kj2 a0).bind fun bt122 => ((key_Text.f kj2 a1).bind fun bt124 => (if bt122.2 = 0 then (calamuslaw13_KeyJoins.j1 kj2 a0 a1 bt122.1 bt122.2 bt124.1 bt124.2 (bt124.2 != 0)) else (calamuslaw13_KeyJoins.j1 kj2 a0 a1 bt122.1 bt122.2 bt124.1 bt124.2 true)))) = some r := by rw [if_neg (show ¬ (false = true) by decide)] at H; exact H
    clear H
    have H := H1
    clear H1
    replace H := Option.bind_eq_some_iff.mp H
    obtain ⟨⟨t122, t123⟩, A80, H⟩ := H
    replace H : ((key_Text.f kj2 a1).bind fun bt124 => (if t123 = 0 then (calamuslaw13_KeyJoins.j1 kj2 a0 a1 t122 t123 bt124.1 bt124.2 (bt124.2 != 0)) else (calamuslaw13_KeyJoins.j1 kj2 a0 a1 t122 t123 bt124.1 bt124.2 true))) = some r := H
    have A8 := Aside0.mk A80
    clear A80
    replace H := Option.bind_eq_some_iff.mp H
    obtain ⟨⟨t124, t125⟩, A90, H⟩ := H
    replace H : (if t123 = 0 then (calamuslaw13_KeyJoins.j1 kj2 a0 a1 t122 t123 t124 t125 (t125 != 0)) else (calamuslaw13_KeyJoins.j1 kj2 a0 a1 t122 t123 t124 t125 true)) = some r := H
    have A9 := Aside0.mk A90
    clear A90
    have HC10 := Aside0.mk H
    clear H
    go_upto_region 5 with (first | ((with_reducible refine gate_callee (f := 44) rfl ?_); refine ge_ (some 26) rfl rfl Try.func44 (by kernel_rfl) rfl #[.string a0] rfl (h := ?_); (with_reducible refine (key_Text.calls kj2 a0 t122 t123 _ A8.out).mono ?_); rintro e w11 ⟨rfl, hb⟩; refine ⟨_, rfl, ?_⟩; replace HB := bs_ HB hb; (try clear hb); (try clear hb2); (try clear hk); (try clear hi)) | ((with_reducible refine gate_callee (f := 44) rfl ?_); refine ge_ (some 31) rfl rfl Try.func44 (by kernel_rfl) rfl #[.string a1] rfl (h := ?_); (with_reducible refine (key_Text.calls kj2 a1 t124 t125 _ A9.out).mono ?_); rintro e w12 ⟨rfl, hb⟩; refine ⟨_, rfl, ?_⟩; replace HB := bs_ HB hb; (try clear hb); (try clear hb2); (try clear hk); (try clear hi)))
    (try simp only [Act.put, List.setIfInBounds_toArray, List.set_cons_zero, List.set_cons_succ])
    go_cut [39] (fun v39 wc => ∃ (kq : Nat) (x39_9 : Bool), v39 = .bool x39_9 ∧ Aside0 (calamuslaw13_KeyJoins.j1 kq a0 a1 t122 t123 t124 t125 x39_9 = some r) ∧ Aside0 (kq ≤ kj2) ∧ Aside0 (Below w.heap.size w wc))
    case first =>
     have H := HC10.out
     clear HC10
     by_cases c13 : t123 = 0
     ·rw [if_pos c13] at H
      have c13b0 : (t123 == 0) = true := beq_iff_eq.mpr c13
      have c13b1 : (t123 != 0) = false := bne_eq_false_iff_eq.mpr c13
      clear c13
      (first | rw [c13b0] | (simp only [i64_w, i32_w]; rw [c13b0]) | skip)
      have H' := Aside0.mk H
      clear H
      go_wp2
      go_meet
      case rel => exact ⟨_, ((t125 != 0)), es_, H', ⟨by have := HJ2.out; first | omega | exact Nat.le_refl _⟩, ⟨hb_ HB⟩⟩
     ·rw [if_neg c13] at H
      have c13b0 : (t123 == 0) = false := beq_eq_false_iff_ne.mpr c13
      have c13b1 : (t123 != 0) = true := bne_iff_ne.mpr c13
      (first | rw [c13b0] | (simp only [i64_w, i32_w]; rw [c13b0]) | skip)
      have H' := Aside0.mk H
      clear H
      go_wp2
      go_meet
      case rel => exact ⟨_, (true), es_, H', ⟨by have := HJ2.out; first | omega | exact Nat.le_refl _⟩, ⟨hb_ HB⟩⟩
    case rest =>
     clear HC10
     try clear c5
     obtain ⟨kq, x39_9, rfl, HA, HJ9, HB⟩ := hcut
     cases kq with
     | zero => exact absurd HA.out (by simp [calamuslaw13_KeyJoins.j1])
     | succ kj9 =>
      have H := HA.out
      clear HA
      simp only [calamuslaw13_KeyJoins.j1] at H
      by_cases c14 : x39_9 = true
      ·subst c14
       have H1 : (if t123 = 0 then (if t125 = 0 then ((calamuslaw13_lives.f kj9).bind fun t126 => (some t126)) else (if t124.toList = ([] : List UInt8) then ((calamuslaw13_lives.f kj9).bind fun t127 => (some t127)) else (some false))) else (if t122.toList = ([] : List UInt8) then (if t125 = 0 then ((calamuslaw13_lives.f kj9).bind fun t128 => (some t128)) else (if t124.toList = ([] : List UInt8) then ((calamuslaw13_lives.f kj9).bind fun t129 => (some t129)) else (some false))) else (some false))) = some r := by rw [if_pos rfl] at H; exact H
       clear H
       have H := H1
       clear H1
       by_cases c15 : t123 = 0
       ·rw [if_pos c15] at H
        have c15b0 : (t123 == 0) = true := beq_iff_eq.mpr c15
        have c15b1 : (t123 != 0) = false := bne_eq_false_iff_eq.mpr c15
        clear c15
        by_cases c16 : t125 = 0
        ·rw [if_pos c16] at H
         have c16b0 : (t125 == 0) = true := beq_iff_eq.mpr c16
         have c16b1 : (t125 != 0) = false := bne_eq_false_iff_eq.mpr c16
         clear c16
         replace H := Option.bind_eq_some_iff.mp H
         obtain ⟨t126, A170, H⟩ := H
         replace H : (some t126) = some r := H
         have A17 := Aside0.mk A170
         clear A170
         obtain rfl := Option.some.inj H
         go_wp2_with (first | (go_at_call 43; (with_reducible refine (calamuslaw13_lives.calls kj9  t126 _ A17.out).mono ?_); rintro e w18 ⟨rfl, hb⟩; replace HB := bs_ HB hb; (try clear hb); (try clear hb2); (try clear hk); (try clear hi)))
         go_ret
         exact ⟨er_, hb_ HB⟩
        ·rw [if_neg c16] at H
         have c16b0 : (t125 == 0) = false := beq_eq_false_iff_ne.mpr c16
         have c16b1 : (t125 != 0) = true := bne_iff_ne.mpr c16
         by_cases c19 : t124.toList = ([] : List UInt8)
         ·rw [if_pos c19] at H
          have c19b0 : (t124.toList == ([] : List UInt8)) = true := beq_iff_eq.mpr c19
          have c19b1 : (t124.toList != ([] : List UInt8)) = false := bne_eq_false_iff_eq.mpr c19
          clear c19
          replace H := Option.bind_eq_some_iff.mp H
          obtain ⟨t127, A200, H⟩ := H
          replace H : (some t127) = some r := H
          have A20 := Aside0.mk A200
          clear A200
          obtain rfl := Option.some.inj H
          go_wp2_with (first | (go_at_call 43; (with_reducible refine (calamuslaw13_lives.calls kj9  t127 _ A20.out).mono ?_); rintro e w21 ⟨rfl, hb⟩; replace HB := bs_ HB hb; (try clear hb); (try clear hb2); (try clear hk); (try clear hi)))
          go_ret
          exact ⟨er_, hb_ HB⟩
         ·rw [if_neg c19] at H
          have c19b0 : (t124.toList == ([] : List UInt8)) = false := beq_eq_false_iff_ne.mpr c19
          have c19b1 : (t124.toList != ([] : List UInt8)) = true := bne_iff_ne.mpr c19
          exact nf_ H hr_
       ·rw [if_neg c15] at H
        have c15b0 : (t123 == 0) = false := beq_eq_false_iff_ne.mpr c15
        have c15b1 : (t123 != 0) = true := bne_iff_ne.mpr c15
        by_cases c22 : t122.toList = ([] : List UInt8)
        ·rw [if_pos c22] at H
         have c22b0 : (t122.toList == ([] : List UInt8)) = true := beq_iff_eq.mpr c22
         have c22b1 : (t122.toList != ([] : List UInt8)) = false := bne_eq_false_iff_eq.mpr c22
         clear c22
         by_cases c23 : t125 = 0
         ·rw [if_pos c23] at H
          have c23b0 : (t125 == 0) = true := beq_iff_eq.mpr c23
          have c23b1 : (t125 != 0) = false := bne_eq_false_iff_eq.mpr c23
          clear c23
          replace H := Option.bind_eq_some_iff.mp H
          obtain ⟨t128, A240, H⟩ := H
          replace H : (some t128) = some r := H
          have A24 := Aside0.mk A240
          clear A240
          obtain rfl := Option.some.inj H
          go_wp2_with (first | (go_at_call 43; (with_reducible refine (calamuslaw13_lives.calls kj9  t128 _ A24.out).mono ?_); rintro e w25 ⟨rfl, hb⟩; replace HB := bs_ HB hb; (try clear hb); (try clear hb2); (try clear hk); (try clear hi)))
          go_ret
          exact ⟨er_, hb_ HB⟩
         ·rw [if_neg c23] at H
          have c23b0 : (t125 == 0) = false := beq_eq_false_iff_ne.mpr c23
          have c23b1 : (t125 != 0) = true := bne_iff_ne.mpr c23
          by_cases c26 : t124.toList = ([] : List UInt8)
          ·rw [if_pos c26] at H
           have c26b0 : (t124.toList == ([] : List UInt8)) = true := beq_iff_eq.mpr c26
           have c26b1 : (t124.toList != ([] : List UInt8)) = false := bne_eq_false_iff_eq.mpr c26
           clear c26
           replace H := Option.bind_eq_some_iff.mp H
           obtain ⟨t129, A270, H⟩ := H
           replace H : (some t129) = some r := H
           have A27 := Aside0.mk A270
           clear A270
           obtain rfl := Option.some.inj H
           go_wp2_with (first | (go_at_call 43; (with_reducible refine (calamuslaw13_lives.calls kj9  t129 _ A27.out).mono ?_); rintro e w28 ⟨rfl, hb⟩; replace HB := bs_ HB hb; (try clear hb); (try clear hb2); (try clear hk); (try clear hi)))
           go_ret
           exact ⟨er_, hb_ HB⟩
          ·rw [if_neg c26] at H
           have c26b0 : (t124.toList == ([] : List UInt8)) = false := beq_eq_false_iff_ne.mpr c26
           have c26b1 : (t124.toList != ([] : List UInt8)) = true := bne_iff_ne.mpr c26
           exact nf_ H hr_
        ·rw [if_neg c22] at H
         have c22b0 : (t122.toList == ([] : List UInt8)) = false := beq_eq_false_iff_ne.mpr c22
         have c22b1 : (t122.toList != ([] : List UInt8)) = true := bne_iff_ne.mpr c22
         exact nf_ H hr_
      ·replace c14 := Bool.eq_false_iff.mpr c14
       subst c14
       have H1 : (if a0.size + a1.size ≤ 9223372036854775807 then ((key_Text.f kj9 (a0 ++ a1)).bind fun bt130 => ((key_Split.f kj9 (a0 ++ a1)).bind fun bt132 => (calamuslaw13_KeyJoins.l0 kj9 a0 a1 t122 t124 bt130.1 bt130.2 bt132.1 bt132.2 (⟨#[]⟩ : ByteArray) 0))) else (none)) = some r := by rw [if_neg (show ¬ (false = true) by decide)] at H; exact H
       clear H
       have H := H1
       clear H1
       by_cases c29 : a0.size + a1.size ≤ 9223372036854775807
       ·rw [if_pos c29] at H
        have c29b0 := eq_true c29
        try (have c29b0x := c29b0; simp only [ByteArray.size_extract, Nat.min_self] at c29b0x)
        have c29b1 : decide (a0.size + a1.size ≤ 9223372036854775807) = true := decide_eq_true c29
        try have c29b2 : (9223372036854775807 < a0.size + a1.size) = False := eq_false (Nat.not_lt.2 c29)
        replace H := Option.bind_eq_some_iff.mp H
        obtain ⟨⟨t130, t131⟩, A300, H⟩ := H
        replace H : ((key_Split.f kj9 (a0 ++ a1)).bind fun bt132 => (calamuslaw13_KeyJoins.l0 kj9 a0 a1 t122 t124 t130 t131 bt132.1 bt132.2 (⟨#[]⟩ : ByteArray) 0)) = some r := H
        have A30 := Aside0.mk A300
        clear A300
        replace H := Option.bind_eq_some_iff.mp H
        obtain ⟨⟨t132, t133⟩, A310, H⟩ := H
        replace H : (calamuslaw13_KeyJoins.l0 kj9 a0 a1 t122 t124 t130 t131 t132 t133 (⟨#[]⟩ : ByteArray) 0) = some r := H
        have A31 := Aside0.mk A310
        clear A310
        have H' := Aside0.mk H
        clear H
        go_wp2_with (first | ((with_reducible refine gate_callee (f := 44) rfl ?_); refine ge_ (some 61) rfl rfl Try.func44 (by kernel_rfl) rfl #[.string (a0 ++ a1)] rfl (h := ?_); (with_reducible refine (key_Text.calls kj9 (a0 ++ a1) t130 t131 _ A30.out).mono ?_); rintro e w32 ⟨rfl, hb⟩; refine ⟨_, rfl, ?_⟩; replace HB := bs_ HB hb; (try clear hb); (try clear hb2); (try clear hk); (try clear hi)) | ((with_reducible refine gate_callee (f := 45) rfl ?_); refine ge_ (some 68) rfl rfl Try.func45 (by kernel_rfl) rfl #[.string (a0 ++ a1)] rfl (h := ?_); (with_reducible refine (key_Split.calls kj9 (a0 ++ a1) t132 t133 _ A31.out).mono ?_); rintro e w33 ⟨v134, rfl, ho0, hb⟩; refine ⟨_, rfl, ?_⟩; have HO135 := Aside0.mk (Kd.R_lower ho0 (below_size (hb_ HB))); replace HB := bs_ HB hb; (try clear hb); (try clear hb2); (try clear hk); (try clear hi); (try clear ho0)))
        go_loopg [13, 14] kj9 (fun kq v13 v14 w' => ∃ (x13_3 : ByteArray) (x14_3 : Int), v13 = .string x13_3 ∧ v14 = .int .i64 x14_3 ∧ Aside0 (calamuslaw13_KeyJoins.l0 kq a0 a1 t122 t124 t130 t131 t132 t133 x13_3 x14_3 = some r) ∧ Aside0 (kq ≤ kj9) ∧ Aside0 (Kd.R Kd.string 9 w' w.heap.size (fun _ => True) v134 t132) ∧ Aside0 (Below w.heap.size w w'))
        case atStart => exact ⟨((⟨#[]⟩ : ByteArray)), (0), es_, es_, H', ⟨Nat.le_refl _⟩, ⟨rw_ HO135.out⟩, ⟨hb_ HB⟩⟩
        case round =>
         clear H'
         try clear c5
         try clear c14
         try clear c29
         try clear c29b0
         try clear c29b1
         try clear c29b2
         obtain ⟨x13_3, x14_3, rfl, rfl, HA, HK3, HO_11, HB⟩ := hrel
         cases gk with
         | zero => exact absurd HA.out (by simp [calamuslaw13_KeyJoins.l0])
         | succ k3 =>
          have H := HA.out
          clear HA
          simp only [calamuslaw13_KeyJoins.l0] at H
          by_cases c34 : x14_3 < (t132.length : Int)
          ·rw [if_pos c34] at H
           have c34b0 : decide (x14_3 < (t132.length : Int)) = true := decide_eq_true c34
           clear c34
           by_cases c35 : 0 ≤ x14_3
           ·rw [if_pos c35] at H
            have c35b0 : decide (0 ≤ x14_3) = true := decide_eq_true c35
            clear c35
            replace H := Option.bind_eq_some_iff.mp H
            obtain ⟨t137, A360, H⟩ := H
            replace H : (if t137 = true then (if x13_3.size + (rdOf ByteArray.empty t132 x14_3).size ≤ 9223372036854775807 then (calamuslaw13_KeyJoins.l0 k3 a0 a1 t122 t124 t130 t131 t132 t133 (x13_3 ++ (rdOf ByteArray.empty t132 x14_3)) (wrap64 (x14_3 + 1))) else (none)) else (some false)) = some r := H
            have A36 := Aside0.mk A360
            clear A360
            by_cases c37 : t137 = true
            ·subst c37
             have H1 : (if x13_3.size + (rdOf ByteArray.empty t132 x14_3).size ≤ 9223372036854775807 then (calamuslaw13_KeyJoins.l0 k3 a0 a1 t122 t124 t130 t131 t132 t133 (x13_3 ++ (rdOf ByteArray.empty t132 x14_3)) (wrap64 (x14_3 + 1))) else (none)) = some r := by rw [if_pos rfl] at H; exact H
             clear H
             have H := H1
             clear H1
             by_cases c38 : x13_3.size + (rdOf ByteArray.empty t132 x14_3).size ≤ 9223372036854775807
             ·rw [if_pos c38] at H
              have c38b0 := eq_true c38
              try (have c38b0x := c38b0; simp only [ByteArray.size_extract, Nat.min_self] at c38b0x)
              have c38b1 : decide (x13_3.size + (rdOf ByteArray.empty t132 x14_3).size ≤ 9223372036854775807) = true := decide_eq_true c38
              try have c38b2 : (9223372036854775807 < x13_3.size + (rdOf ByteArray.empty t132 x14_3).size) = False := eq_false (Nat.not_lt.2 c38)
              have H' := Aside0.mk H
              clear H
              obtain ⟨Ao39, co39, eo39⟩ := Kd.R_slice HO_11.out
              subst eo39
              have p136 : 0 ≤ (x14_3 : Int) := of_decide_eq_true as_
              have q136 : x14_3 < (t132.length : Int) := of_decide_eq_true as_
              obtain ⟨ad136, e136, hx136_0⟩ := Kd.at_string (Kd.R_reads' HO_11.out).2.2 x14_3 p136 q136
              cases e136
              replace p136 := eq_true p136
              replace q136 := eq_true q136
              go_wp2_with (first | ((with_reducible refine gate_callee (f := 37) rfl ?_); refine ge_ (some 81) rfl rfl Try.func37 (by kernel_rfl) rfl #[.string (rdOf ByteArray.empty t132 x14_3)] rfl (h := ?_); (with_reducible refine (key_Right.calls k3 (rdOf ByteArray.empty t132 x14_3) true _ A36.out).mono ?_); rintro e w40 ⟨rfl, hb⟩; refine ⟨_, rfl, ?_⟩; replace HO_11 := Aside0.mk (Kd.R_below (rw_ HO_11.out) hb); replace HB := bs_ HB hb; (try clear hb); (try clear hb2); (try clear hk); (try clear hi); have p138 : 0 ≤ (x14_3 : Int) := of_decide_eq_true as_; have q138 : x14_3 < (t132.length : Int) := of_decide_eq_true as_; obtain ⟨ad138, e138, hx138_0⟩ := Kd.at_string (Kd.R_reads' HO_11.out).2.2 x14_3 p138 q138; obtain rfl : ad136 = ad138 := (by injection e138); replace p138 := eq_true p138; replace q138 := eq_true q138))
              go_roundg k3
              case measure => have := HJ2.out; have := HJ9.out; have := HK3.out; omega
              case rel => exact ⟨(x13_3 ++ (rdOf ByteArray.empty t132 x14_3)), (wrap64 (x14_3 + 1)), es_, es_, H', ⟨by have := HJ2.out; have := HJ9.out; have := HK3.out; omega⟩, ⟨rw_ HO_11.out⟩, ⟨hb_ HB⟩⟩
             ·rw [if_neg c38] at H
              exact absurd H (by simp)
            ·replace c37 := Bool.eq_false_iff.mpr c37
             subst c37
             have H1 : (some false) = some r := by rw [if_neg (show ¬ (false = true) by decide)] at H; exact H
             clear H
             have H := H1
             clear H1
             exact nf_ H hr_
           ·rw [if_neg c35] at H
            exact absurd H (by simp)
          ·rw [if_neg c34] at H
           have c34b0 : decide (x14_3 < (t132.length : Int)) = false := decide_eq_false c34
           clear c34
           by_cases c43 : t122.size + t124.size ≤ 9223372036854775807
           ·rw [if_pos c43] at H
            have c43b0 := eq_true c43
            try (have c43b0x := c43b0; simp only [ByteArray.size_extract, Nat.min_self] at c43b0x)
            have c43b1 : decide (t122.size + t124.size ≤ 9223372036854775807) = true := decide_eq_true c43
            try have c43b2 : (9223372036854775807 < t122.size + t124.size) = False := eq_false (Nat.not_lt.2 c43)
            by_cases c44 : t130.toList = (t122 ++ t124).toList
            ·rw [if_pos c44] at H
             have c44b0 : (t130.toList == (t122 ++ t124).toList) = true := beq_iff_eq.mpr c44
             have c44b1 : (t130.toList != (t122 ++ t124).toList) = false := bne_eq_false_iff_eq.mpr c44
             clear c44
             by_cases c45 : t131 = 0
             ·rw [if_pos c45] at H
              have c45b0 : (t131 == 0) = true := beq_iff_eq.mpr c45
              have c45b1 : (t131 != 0) = false := bne_eq_false_iff_eq.mpr c45
              clear c45
              by_cases c46 : t133 = 0
              ·rw [if_pos c46] at H
               have c46b0 : (t133 == 0) = true := beq_iff_eq.mpr c46
               have c46b1 : (t133 != 0) = false := bne_eq_false_iff_eq.mpr c46
               clear c46
               by_cases c47 : a0.size + a1.size ≤ 9223372036854775807
               ·rw [if_pos c47] at H
                have c47b0 := eq_true c47
                try (have c47b0x := c47b0; simp only [ByteArray.size_extract, Nat.min_self] at c47b0x)
                have c47b1 : decide (a0.size + a1.size ≤ 9223372036854775807) = true := decide_eq_true c47
                try have c47b2 : (9223372036854775807 < a0.size + a1.size) = False := eq_false (Nat.not_lt.2 c47)
                by_cases c48 : x13_3.toList = (a0 ++ a1).toList
                ·rw [if_pos c48] at H
                 have c48b0 : (x13_3.toList == (a0 ++ a1).toList) = true := beq_iff_eq.mpr c48
                 have c48b1 : (x13_3.toList != (a0 ++ a1).toList) = false := bne_eq_false_iff_eq.mpr c48
                 clear c48
                 replace H := Option.bind_eq_some_iff.mp H
                 obtain ⟨t139, A490, H⟩ := H
                 replace H : (some t139) = some r := H
                 have A49 := Aside0.mk A490
                 clear A490
                 obtain rfl := Option.some.inj H
                 obtain ⟨Ao50, co50, eo50⟩ := Kd.R_slice HO_11.out
                 subst eo50
                 go_wp2_with (first | (go_at_call 43; (with_reducible refine (calamuslaw13_lives.calls k3  t139 _ A49.out).mono ?_); rintro e w51 ⟨rfl, hb⟩; replace HO_11 := Aside0.mk (Kd.R_below (rw_ HO_11.out) hb); replace HB := bs_ HB hb; (try clear hb); (try clear hb2); (try clear hk); (try clear hi)))
                 go_ret
                 exact ⟨er_, hb_ HB⟩
                ·rw [if_neg c48] at H
                 have c48b0 : (x13_3.toList == (a0 ++ a1).toList) = false := beq_eq_false_iff_ne.mpr c48
                 have c48b1 : (x13_3.toList != (a0 ++ a1).toList) = true := bne_iff_ne.mpr c48
                 exact nf_ H hr_
               ·rw [if_neg c47] at H
                exact absurd H (by simp)
              ·rw [if_neg c46] at H
               have c46b0 : (t133 == 0) = false := beq_eq_false_iff_ne.mpr c46
               have c46b1 : (t133 != 0) = true := bne_iff_ne.mpr c46
               exact nf_ H hr_
             ·rw [if_neg c45] at H
              have c45b0 : (t131 == 0) = false := beq_eq_false_iff_ne.mpr c45
              have c45b1 : (t131 != 0) = true := bne_iff_ne.mpr c45
              exact nf_ H hr_
            ·rw [if_neg c44] at H
             have c44b0 : (t130.toList == (t122 ++ t124).toList) = false := beq_eq_false_iff_ne.mpr c44
             have c44b1 : (t130.toList != (t122 ++ t124).toList) = true := bne_iff_ne.mpr c44
             exact nf_ H hr_
           ·rw [if_neg c43] at H
            exact absurd H (by simp)
       ·rw [if_neg c29] at H
        exact absurd H (by simp)

/-- THE ONE PURE STATEMENT of calamuslaw13_KeyJoins: yours. -/
def calamuslaw13_KeyJoins.Pure : Prop := ∀ (a0 : ByteArray) (a1 : ByteArray), a0.size ≤ 140737488351232 → a1.size ≤ 140737488351232 → ∃ k, calamuslaw13_KeyJoins.f k a0 a1 = some true
theorem calamuslaw13_KeyJoins.walk (P : calamuslaw13_KeyJoins.Pure) (a0 : ByteArray) (a1 : ByteArray) (w : World) (w0 : a0.size ≤ 140737488351232) (w1 : a1.size ≤ 140737488351232) :
  Calls Try.prog 10 #[.string a0, .string a1] w fun e w' => e = .returned (.bool true) ∧ Below w.heap.size w w' := by
 obtain ⟨k, h⟩ := P a0 a1 w0 w1
 refine (calamuslaw13_KeyJoins.calls k a0 a1 true w h).mono ?_
 rintro e w' ⟨rfl, hd⟩
 exact ⟨rfl, hd⟩

end Go.Proofs.Ytealbonfaebikaa.PKeyJoins
