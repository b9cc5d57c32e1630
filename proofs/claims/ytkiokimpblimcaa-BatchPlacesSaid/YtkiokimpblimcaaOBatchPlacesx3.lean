/- Of the law calamus/calamuslaw09.BatchPlaces: each function as a plain Lean function, with a proof that the call comes to it; the row. By wip/tpl/own_print.py. Conditions: none but the row's own. -/
import Derived.Test.YtkiokimpblimcaaOBatchPlacesx0
import Derived.Test.YtkiokimpblimcaaOBatchPlacesx2
namespace Go.Proofs.Ytkiokimpblimcaa.PBatchPlaces
open Go.RowKit Go.Proofs.YtkiokimpblimcaaW.PrintWords Go.Proofs.YtkiokimpblimcaaW.PrintLast Go.Proofs.YtkiokimpblimcaaW.PrintMore
attribute [local go_sem] max2_int min2_int max_two min_two max_three min_three max_four min_four   -- for this text's walks alone
set_option linter.unusedVariables false
set_option linter.unusedSimpArgs false

/-! ### utf_Valid: function 26 -/
def utf_Valid.l0 : Nat → ByteArray → Option (Bool)
 | 0, _ => none
 | k + 1, x0 => if x0.toList = ([] : List UInt8) then (some true) else ((utf_size.f k x0).bind fun t111 => (if t111 = 0 then (some false) else (if 0 ≤ t111 then (if t111 ≤ (x0.size : Int) then (utf_Valid.l0 k (x0.extract (t111 : Int).toNat x0.size)) else (none)) else (none))))
def utf_Valid.f (k : Nat) (a0 : ByteArray) : Option (Bool) := utf_Valid.l0 k a0
theorem utf_Valid.mono_l : ∀ k, (∀ y0, LeO (utf_Valid.l0 k y0) (utf_Valid.l0 (k + 1) y0))
 | 0 => fun _ r h => by simp [utf_Valid.l0] at h
 | k + 1 => by
  have ih0 := utf_Valid.mono_l k
  ·intro y0
   unfold utf_Valid.l0
   repeat' first
   | (with_reducible exact ih0 _)
   | (with_reducible exact utf_size.mono _ _)
   | (with_reducible exact LeO.refl _)
   | (with_reducible exact LeO.none _)
   | (with_reducible refine LeO.ite ?_ ?_)
   | (with_reducible refine LeO.bind ?_ (fun _ => ?_))
   | exact ih0 _
   | exact utf_size.mono _ _
   | exact LeO.none _
   | refine LeO.ite ?_ ?_
   | refine LeO.bind ?_ (fun _ => ?_)
theorem utf_Valid.mono : ∀ a0 k, LeO (utf_Valid.f k a0) (utf_Valid.f (k + 1) a0) := by
 intro a0 k
 have ih0 := utf_Valid.mono_l k
 unfold utf_Valid.f
 repeat' first
   | (with_reducible exact ih0 _)
   | (with_reducible exact utf_size.mono _ _)
   | (with_reducible exact LeO.refl _)
   | (with_reducible exact LeO.none _)
   | (with_reducible refine LeO.ite ?_ ?_)
   | (with_reducible refine LeO.bind ?_ (fun _ => ?_))
   | exact ih0 _
   | exact utf_size.mono _ _
   | exact LeO.none _
   | refine LeO.ite ?_ ?_
   | refine LeO.bind ?_ (fun _ => ?_)
set_option maxHeartbeats 8000000 in
set_option maxRecDepth 100000 in
theorem utf_Valid.calls (k : Nat) (a0 : ByteArray) (r : Bool) (w : World) (h : utf_Valid.f k a0 = some r) :
  Calls Try.prog 26 #[.string a0] w fun e w' => e = .returned (.bool r) ∧ Below w.heap.size w w' := by
 have HB := Aside0.mk (Below.refl w.heap.size w)
 have H : (utf_Valid.l0 k a0) = some r := h
 clear h
 have H' := Aside0.mk H
 clear H
 go_enter Try.func26, Try.ntmps26
 go_wp2
 go_loopg [0] k (fun kq v0 w' => ∃ (x0_1 : ByteArray), v0 = .string x0_1 ∧ Aside0 (utf_Valid.l0 kq x0_1 = some r) ∧ Aside0 (kq ≤ k) ∧ Aside0 (Below w.heap.size w w'))
 case atStart => exact ⟨(a0), es_, H', ⟨Nat.le_refl _⟩, ⟨hb_ HB⟩⟩
 case round =>
  clear H'
  obtain ⟨x0_1, rfl, HA, HK1, HB⟩ := hrel
  cases gk with
  | zero => exact absurd HA.out (by simp [utf_Valid.l0])
  | succ k1 =>
   have H := HA.out
   clear HA
   simp only [utf_Valid.l0] at H
   by_cases c2 : x0_1.toList = ([] : List UInt8)
   ·rw [if_pos c2] at H
    have c2b0 : (x0_1.toList == ([] : List UInt8)) = true := beq_iff_eq.mpr c2
    have c2b1 : (x0_1.toList != ([] : List UInt8)) = false := bne_eq_false_iff_eq.mpr c2
    clear c2
    obtain rfl := Option.some.inj H
    go_wp2
    go_ret
    exact ⟨er_, hb_ HB⟩
   ·rw [if_neg c2] at H
    have c2b0 : (x0_1.toList == ([] : List UInt8)) = false := beq_eq_false_iff_ne.mpr c2
    have c2b1 : (x0_1.toList != ([] : List UInt8)) = true := bne_iff_ne.mpr c2
    replace H := Option.bind_eq_some_iff.mp H
    obtain ⟨t111, A30, H⟩ := H
    replace H : (if t111 = 0 then (some false) else (if 0 ≤ t111 then (if t111 ≤ (x0_1.size : Int) then (utf_Valid.l0 k1 (x0_1.extract (t111 : Int).toNat x0_1.size)) else (none)) else (none))) = some r := H
    have A3 := Aside0.mk A30
    clear A30
    by_cases c4 : t111 = 0
    ·rw [if_pos c4] at H
     have c4b0 : (t111 == 0) = true := beq_iff_eq.mpr c4
     have c4b1 : (t111 != 0) = false := bne_eq_false_iff_eq.mpr c4
     clear c4
     obtain rfl := Option.some.inj H
     go_wp2_with (first | ((with_reducible refine gate_callee (f := 68) rfl ?_); refine ge_ (some 7) rfl rfl Try.func68 (by kernel_rfl) rfl #[.string x0_1] rfl (h := ?_); (with_reducible refine (utf_size.calls k1 x0_1 t111 _ A3.out).mono ?_); rintro e w5 ⟨rfl, hb⟩; refine ⟨_, rfl, ?_⟩; replace HB := bs_ HB hb; (try clear hb); (try clear hb2); (try clear hk); (try clear hi)))
     go_ret
     exact ⟨er_, hb_ HB⟩
    ·rw [if_neg c4] at H
     have c4b0 : (t111 == 0) = false := beq_eq_false_iff_ne.mpr c4
     have c4b1 : (t111 != 0) = true := bne_iff_ne.mpr c4
     by_cases c6 : 0 ≤ t111
     ·rw [if_pos c6] at H
      have c6b0 := eq_true c6
      try (have c6b0x := c6b0; simp only [ByteArray.size_extract, Nat.min_self] at c6b0x)
      have c6b1 : decide (0 ≤ t111) = true := decide_eq_true c6
      clear c6
      by_cases c7 : t111 ≤ (x0_1.size : Int)
      ·rw [if_pos c7] at H
       have c7b0 := eq_true c7
       try (have c7b0x := c7b0; simp only [ByteArray.size_extract, Nat.min_self] at c7b0x)
       have c7b1 : decide (t111 ≤ (x0_1.size : Int)) = true := decide_eq_true c7
       clear c7
       have H' := Aside0.mk H
       clear H
       go_wp2_with (first | ((with_reducible refine gate_callee (f := 68) rfl ?_); refine ge_ (some 7) rfl rfl Try.func68 (by kernel_rfl) rfl #[.string x0_1] rfl (h := ?_); (with_reducible refine (utf_size.calls k1 x0_1 t111 _ A3.out).mono ?_); rintro e w8 ⟨rfl, hb⟩; refine ⟨_, rfl, ?_⟩; replace HB := bs_ HB hb; (try clear hb); (try clear hb2); (try clear hk); (try clear hi)))
       go_roundg k1
       case measure => have := HK1.out; omega
       case rel => exact ⟨(x0_1.extract (t111 : Int).toNat x0_1.size), es_, H', ⟨by have := HK1.out; omega⟩, ⟨hb_ HB⟩⟩
      ·rw [if_neg c7] at H
       exact absurd H (by simp)
     ·rw [if_neg c6] at H
      exact absurd H (by simp)

/-! ### utf_inner: function 70 -/
def utf_inner.f (a0 : Int) : Option (Bool) := some ((Go.bits .and .u8 a0 192) == 128)
set_option maxHeartbeats 8000000 in
set_option maxRecDepth 100000 in
theorem utf_inner.calls (a0 : Int) (r : Bool) (w : World) (h : utf_inner.f a0 = some r) :
  Calls Try.prog 70 #[.int .u8 a0] w fun e w' => e = .returned (.bool r) ∧ Drawn0 w w' := by
 have H : (some ((Go.bits .and .u8 a0 192) == 128)) = some r := h
 clear h
 obtain rfl := Option.some.inj H
 go_enter Try.func70, Try.ntmps70
 go_wp2
 go_ret
 exact ⟨by first | rfl | (simp; done) | (simp [*]; done), by repeat (first | exact Drawn0.refl _ | apply Drawn0.step)⟩

/-! ### utf_Place: function 65 -/
def utf_Place.f (k : Nat) (a0 : ByteArray) (a1 : Int) : Option (Bool) := if a1 ≥ 0 then (if a1 ≤ (a0.size : Int) then (if a1 = (a0.size : Int) then ((utf_Valid.f k a0).bind fun t112 => (some t112)) else (if 0 ≤ a1 then (if a1 < (a0.size : Int) then ((utf_inner.f (bt a0 a1)).bind fun t113 => (if t113 = true then (some false) else ((utf_Valid.f k a0).bind fun t114 => (some t114)))) else (none)) else (none))) else (some false)) else (some false)
theorem utf_Place.mono : ∀ a0 a1 k, LeO (utf_Place.f k a0 a1) (utf_Place.f (k + 1) a0 a1) := by
 intro a0 a1 k
 unfold utf_Place.f
 repeat' first
   | (with_reducible exact utf_Valid.mono _ _)
   | (with_reducible exact LeO.refl _)
   | (with_reducible exact LeO.none _)
   | (with_reducible refine LeO.ite ?_ ?_)
   | (with_reducible refine LeO.bind ?_ (fun _ => ?_))
   | exact utf_Valid.mono _ _
   | exact LeO.none _
   | refine LeO.ite ?_ ?_
   | refine LeO.bind ?_ (fun _ => ?_)
set_option maxHeartbeats 8000000 in
set_option maxRecDepth 100000 in
theorem utf_Place.calls (k : Nat) (a0 : ByteArray) (a1 : Int) (r : Bool) (w : World) (h : utf_Place.f k a0 a1 = some r) :
  Calls Try.prog 65 #[.string a0, .int .i64 a1] w fun e w' => e = .returned (.bool r) ∧ Below w.heap.size w w' := by
 have HB := Aside0.mk (Below.refl w.heap.size w)
 have H : (if a1 ≥ 0 then (if a1 ≤ (a0.size : Int) then (if a1 = (a0.size : Int) then ((utf_Valid.f k a0).bind fun t112 => (some t112)) else (if 0 ≤ a1 then (if a1 < (a0.size : Int) then ((utf_inner.f (bt a0 a1)).bind fun t113 => (if t113 = true then (some false) else ((utf_Valid.f k a0).bind fun t114 => (some t114)))) else (none)) else (none))) else (some false)) else (some false)) = some r := h
 clear h
 by_cases c3 : a1 ≥ 0
 ·rw [if_pos c3] at H
  have c3b0 : decide (0 ≤ a1) = true := decide_eq_true c3
  clear c3
  by_cases c4 : a1 ≤ (a0.size : Int)
  ·rw [if_pos c4] at H
   have c4b0 : decide (a1 ≤ (a0.size : Int)) = true := decide_eq_true c4
   clear c4
   by_cases c5 : a1 = (a0.size : Int)
   ·rw [if_pos c5] at H
    have c5b0 : (a1 == (a0.size : Int)) = true := beq_iff_eq.mpr c5
    have c5b1 : (a1 != (a0.size : Int)) = false := bne_eq_false_iff_eq.mpr c5
    clear c5
    replace H := Option.bind_eq_some_iff.mp H
    obtain ⟨t112, A60, H⟩ := H
    replace H : (some t112) = some r := H
    have A6 := Aside0.mk A60
    clear A60
    obtain rfl := Option.some.inj H
    go_enter Try.func65, Try.ntmps65
    go_wp2_with (first | (go_at_call 26; (with_reducible refine (utf_Valid.calls k a0 t112 _ A6.out).mono ?_); rintro e w7 ⟨rfl, hb⟩; replace HB := bs_ HB hb; (try clear hb); (try clear hb2); (try clear hk); (try clear hi)))
    go_ret
    exact ⟨er_, hb_ HB⟩
   ·rw [if_neg c5] at H
    have c5b0 : (a1 == (a0.size : Int)) = false := beq_eq_false_iff_ne.mpr c5
    have c5b1 : (a1 != (a0.size : Int)) = true := bne_iff_ne.mpr c5
    by_cases c8 : 0 ≤ a1
    ·rw [if_pos c8] at H
     have c8b0 : decide (0 ≤ a1) = true := decide_eq_true c8
     clear c8
     by_cases c9 : a1 < (a0.size : Int)
     ·rw [if_pos c9] at H
      have c9b0 : decide (a1 < (a0.size : Int)) = true := decide_eq_true c9
      clear c9
      replace H := Option.bind_eq_some_iff.mp H
      obtain ⟨t113, A110, H⟩ := H
      replace H : (if t113 = true then (some false) else ((utf_Valid.f k a0).bind fun t114 => (some t114))) = some r := H
      have A11 := Aside0.mk A110
      clear A110
      by_cases c12 : t113 = true
      ·subst c12
       have H1 : (some false) = some r := by rw [if_pos rfl] at H; exact H
       clear H
       have H := H1
       clear H1
       obtain rfl := Option.some.inj H
       have p10 : 0 ≤ (a1 : Int) := of_decide_eq_true as_
       have q10 : a1 < (a0.size : Int) := of_decide_eq_true as_
       have hx10 := bt_at a0 a1
       replace p10 := eq_true p10
       replace q10 := eq_true q10
       go_enter Try.func65, Try.ntmps65
       go_wp2_with (first | (go_at_call 70; (with_reducible refine (utf_inner.calls (bt a0 a1) true _ A11.out).mono ?_); rintro e w' ⟨rfl, ⟨nd, rfl⟩⟩))
       go_ret
       exact ⟨er_, hb_ HB⟩
      ·replace c12 := Bool.eq_false_iff.mpr c12
       subst c12
       have H1 : ((utf_Valid.f k a0).bind fun t114 => (some t114)) = some r := by rw [if_neg (show ¬ (false = true) by decide)] at H; exact H
       clear H
       have H := H1
       clear H1
       replace H := Option.bind_eq_some_iff.mp H
       obtain ⟨t114, A130, H⟩ := H
       replace H : (some t114) = some r := H
       have A13 := Aside0.mk A130
       clear A130
       obtain rfl := Option.some.inj H
       have p10 : 0 ≤ (a1 : Int) := of_decide_eq_true as_
       have q10 : a1 < (a0.size : Int) := of_decide_eq_true as_
       have hx10 := bt_at a0 a1
       replace p10 := eq_true p10
       replace q10 := eq_true q10
       go_enter Try.func65, Try.ntmps65
       go_wp2_with (first | (go_at_call 70; (with_reducible refine (utf_inner.calls (bt a0 a1) false _ A11.out).mono ?_); rintro e w' ⟨rfl, ⟨nd, rfl⟩⟩) | (go_at_call 26; (with_reducible refine (utf_Valid.calls k a0 t114 _ A13.out).mono ?_); rintro e w14 ⟨rfl, hb⟩; replace HB := bs_ HB hb; (try clear hb); (try clear hb2); (try clear hk); (try clear hi)))
       go_ret
       exact ⟨er_, hb_ HB⟩
     ·rw [if_neg c9] at H
      exact absurd H (by simp)
    ·rw [if_neg c8] at H
     exact absurd H (by simp)
  ·rw [if_neg c4] at H
   have c4b0 : decide (a1 ≤ (a0.size : Int)) = false := decide_eq_false c4
   clear c4
   obtain rfl := Option.some.inj H
   go_enter Try.func65, Try.ntmps65
   go_wp2
   go_ret
   exact ⟨er_, hb_ HB⟩
 ·rw [if_neg c3] at H
  have c3b0 : decide (0 ≤ a1) = false := decide_eq_false c3
  clear c3
  obtain rfl := Option.some.inj H
  go_enter Try.func65, Try.ntmps65
  go_wp2
  go_ret
  exact ⟨er_, hb_ HB⟩

/-! ### stringslite_HasPrefix: function 91 -/
def stringslite_HasPrefix.f (a0 : ByteArray) (a1 : ByteArray) : Option (Bool) := if (a0.size : Int) ≥ (a1.size : Int) then (if 0 ≤ (a1.size : Int) then (if (a1.size : Int) ≤ (a0.size : Int) then (some ((a0.extract 0 ((a1.size : Int) : Int).toNat).toList == a1.toList)) else (none)) else (none)) else (some false)
set_option maxHeartbeats 8000000 in
set_option maxRecDepth 100000 in
theorem stringslite_HasPrefix.calls (a0 : ByteArray) (a1 : ByteArray) (r : Bool) (w : World) (h : stringslite_HasPrefix.f a0 a1 = some r) :
  Calls Try.prog 91 #[.string a0, .string a1] w fun e w' => e = .returned (.bool r) ∧ Drawn0 w w' := by
 have H : (if (a0.size : Int) ≥ (a1.size : Int) then (if 0 ≤ (a1.size : Int) then (if (a1.size : Int) ≤ (a0.size : Int) then (some ((a0.extract 0 ((a1.size : Int) : Int).toNat).toList == a1.toList)) else (none)) else (none)) else (some false)) = some r := h
 clear h
 by_cases c3 : (a0.size : Int) ≥ (a1.size : Int)
 ·rw [if_pos c3] at H
  have c3b0 : decide ((a1.size : Int) ≤ (a0.size : Int)) = true := decide_eq_true c3
  have c3b1 : decide (a1.size ≤ a0.size) = true := decide_eq_true (Int.ofNat_le.mp c3)
  clear c3
  by_cases c4 : 0 ≤ (a1.size : Int)
  ·rw [if_pos c4] at H
   have c4b0 := eq_true c4
   try (have c4b0x := c4b0; simp only [ByteArray.size_extract, Nat.min_self] at c4b0x)
   have c4b1 : decide (0 ≤ (a1.size : Int)) = true := decide_eq_true c4
   clear c4
   by_cases c5 : (a1.size : Int) ≤ (a0.size : Int)
   ·rw [if_pos c5] at H
    have c5b0 := eq_true c5
    try (have c5b0x := c5b0; simp only [ByteArray.size_extract, Nat.min_self] at c5b0x)
    have c5b1 : decide ((a1.size : Int) ≤ (a0.size : Int)) = true := decide_eq_true c5
    clear c5
    obtain rfl := Option.some.inj H
    go_enter Try.func91, Try.ntmps91
    go_wp2
    go_ret
    exact ⟨by first | rfl | (simp; done) | (simp [*]; done), by repeat (first | exact Drawn0.refl _ | apply Drawn0.step)⟩
   ·rw [if_neg c5] at H
    exact absurd H (by simp)
  ·rw [if_neg c4] at H
   exact absurd H (by simp)
 ·rw [if_neg c3] at H
  have c3b0 : decide ((a1.size : Int) ≤ (a0.size : Int)) = false := decide_eq_false c3
  have c3b1 : decide (a1.size ≤ a0.size) = false := decide_eq_false (fun h => c3 (Int.ofNat_le.mpr h))
  clear c3
  obtain rfl := Option.some.inj H
  go_enter Try.func91, Try.ntmps91
  go_wp2
  go_ret
  exact ⟨by first | rfl | (simp; done) | (simp [*]; done), by repeat (first | exact Drawn0.refl _ | apply Drawn0.step)⟩

/-! ### strings_HasPrefix: function 66 -/
def strings_HasPrefix.f (a0 : ByteArray) (a1 : ByteArray) : Option (Bool) := (stringslite_HasPrefix.f a0 a1).bind fun t115 => (some t115)
set_option maxHeartbeats 8000000 in
set_option maxRecDepth 100000 in
theorem strings_HasPrefix.calls (a0 : ByteArray) (a1 : ByteArray) (r : Bool) (w : World) (h : strings_HasPrefix.f a0 a1 = some r) :
  Calls Try.prog 66 #[.string a0, .string a1] w fun e w' => e = .returned (.bool r) ∧ Drawn0 w w' := by
 have H : ((stringslite_HasPrefix.f a0 a1).bind fun t115 => (some t115)) = some r := h
 clear h
 replace H := Option.bind_eq_some_iff.mp H
 obtain ⟨t115, A30, H⟩ := H
 replace H : (some t115) = some r := H
 have A3 := Aside0.mk A30
 clear A30
 obtain rfl := Option.some.inj H
 go_enter Try.func66, Try.ntmps66
 go_wp2_with (first | ((with_reducible refine gate_callee (f := 91) rfl ?_); refine ge_ (some 7) rfl rfl Try.func91 (by kernel_rfl) rfl #[.string a0, .string a1] rfl (h := ?_); (with_reducible refine (stringslite_HasPrefix.calls a0 a1 t115 _ A3.out).mono ?_); rintro e w' ⟨rfl, ⟨nd, rfl⟩⟩; refine ⟨_, rfl, ?_⟩))
 go_ret
 exact ⟨by first | rfl | (simp; done) | (simp [*]; done), by repeat (first | exact Drawn0.refl _ | apply Drawn0.step)⟩

/-! ### change_Fits: function 23 -/
def change_Fits.f (k : Nat) (a0 : ByteArray) (a1_0 : Int) (a1_1 : ByteArray) (a1_2 : ByteArray) : Option (Bool) := (utf_Place.f k a0 a1_0).bind fun t117 => (if t117 = true then ((utf_Valid.f k a1_1).bind fun t118 => (if t118 = true then ((utf_Valid.f k a1_2).bind fun t119 => (if t119 = true then (if 0 ≤ a1_0 then (if a1_0 ≤ (a0.size : Int) then ((strings_HasPrefix.f (a0.extract (a1_0 : Int).toNat a0.size) a1_1).bind fun t120 => (some t120)) else (none)) else (none)) else (some false))) else (some false))) else (some false))
theorem change_Fits.mono : ∀ a0 a1 a2 a3 k, LeO (change_Fits.f k a0 a1 a2 a3) (change_Fits.f (k + 1) a0 a1 a2 a3) := by
 intro a0 a1 a2 a3 k
 unfold change_Fits.f
 repeat' first
   | (with_reducible exact utf_Place.mono _ _ _)
   | (with_reducible exact utf_Valid.mono _ _)
   | (with_reducible exact LeO.refl _)
   | (with_reducible exact LeO.none _)
   | (with_reducible refine LeO.ite ?_ ?_)
   | (with_reducible refine LeO.bind ?_ (fun _ => ?_))
   | exact utf_Place.mono _ _ _
   | exact utf_Valid.mono _ _
   | exact LeO.none _
   | refine LeO.ite ?_ ?_
   | refine LeO.bind ?_ (fun _ => ?_)
set_option maxHeartbeats 8000000 in
set_option maxRecDepth 100000 in
theorem change_Fits.calls (k : Nat) (a0 : ByteArray) (a1_0 : Int) (a1_1 : ByteArray) (a1_2 : ByteArray) (r : Bool) (w : World) (h : change_Fits.f k a0 a1_0 a1_1 a1_2 = some r) :
  Calls Try.prog 23 #[.string a0, .agg #[.int .i64 a1_0, .string a1_1, .string a1_2]] w fun e w' => e = .returned (.bool r) ∧ Below w.heap.size w w' := by
 have hu24 := Try.underlying24
 have HB := Aside0.mk (Below.refl w.heap.size w)
 have H : ((utf_Place.f k a0 a1_0).bind fun t117 => (if t117 = true then ((utf_Valid.f k a1_1).bind fun t118 => (if t118 = true then ((utf_Valid.f k a1_2).bind fun t119 => (if t119 = true then (if 0 ≤ a1_0 then (if a1_0 ≤ (a0.size : Int) then ((strings_HasPrefix.f (a0.extract (a1_0 : Int).toNat a0.size) a1_1).bind fun t120 => (some t120)) else (none)) else (none)) else (some false))) else (some false))) else (some false))) = some r := h
 clear h
 replace H := Option.bind_eq_some_iff.mp H
 obtain ⟨t117, A30, H⟩ := H
 replace H : (if t117 = true then ((utf_Valid.f k a1_1).bind fun t118 => (if t118 = true then ((utf_Valid.f k a1_2).bind fun t119 => (if t119 = true then (if 0 ≤ a1_0 then (if a1_0 ≤ (a0.size : Int) then ((strings_HasPrefix.f (a0.extract (a1_0 : Int).toNat a0.size) a1_1).bind fun t120 => (some t120)) else (none)) else (none)) else (some false))) else (some false))) else (some false)) = some r := H
 have A3 := Aside0.mk A30
 clear A30
 by_cases c4 : t117 = true
 ·subst c4
  have H1 : ((utf_Valid.f k a1_1).bind fun t118 => (if t118 = true then ((utf_Valid.f k a1_2).bind fun t119 => (if t119 = true then (if 0 ≤ a1_0 then (if a1_0 ≤ (a0.size : Int) then ((strings_HasPrefix.f (a0.extract (a1_0 : Int).toNat a0.size) a1_1).bind fun t120 => (some t120)) else (none)) else (none)) else (some false))) else (some false))) = some r := by rw [if_pos rfl] at H; exact H
  clear H
  have H := H1
  clear H1
  replace H := Option.bind_eq_some_iff.mp H
  obtain ⟨t118, A50, H⟩ := H
  replace H : (if t118 = true then ((utf_Valid.f k a1_2).bind fun t119 => (if t119 = true then (if 0 ≤ a1_0 then (if a1_0 ≤ (a0.size : Int) then ((strings_HasPrefix.f (a0.extract (a1_0 : Int).toNat a0.size) a1_1).bind fun t120 => (some t120)) else (none)) else (none)) else (some false))) else (some false)) = some r := H
  have A5 := Aside0.mk A50
  clear A50
  by_cases c6 : t118 = true
  ·subst c6
   have H1 : ((utf_Valid.f k a1_2).bind fun t119 => (if t119 = true then (if 0 ≤ a1_0 then (if a1_0 ≤ (a0.size : Int) then ((strings_HasPrefix.f (a0.extract (a1_0 : Int).toNat a0.size) a1_1).bind fun t120 => (some t120)) else (none)) else (none)) else (some false))) = some r := by rw [if_pos rfl] at H; exact H
   clear H
   have H := H1
   clear H1
   replace H := Option.bind_eq_some_iff.mp H
   obtain ⟨t119, A70, H⟩ := H
   replace H : (if t119 = true then (if 0 ≤ a1_0 then (if a1_0 ≤ (a0.size : Int) then ((strings_HasPrefix.f (a0.extract (a1_0 : Int).toNat a0.size) a1_1).bind fun t120 => (some t120)) else (none)) else (none)) else (some false)) = some r := H
   have A7 := Aside0.mk A70
   clear A70
   by_cases c8 : t119 = true
   ·subst c8
    have H1 : (if 0 ≤ a1_0 then (if a1_0 ≤ (a0.size : Int) then ((strings_HasPrefix.f (a0.extract (a1_0 : Int).toNat a0.size) a1_1).bind fun t120 => (some t120)) else (none)) else (none)) = some r := by rw [if_pos rfl] at H; exact H
    clear H
    have H := H1
    clear H1
    by_cases c9 : 0 ≤ a1_0
    ·rw [if_pos c9] at H
     have c9b0 := eq_true c9
     try (have c9b0x := c9b0; simp only [ByteArray.size_extract, Nat.min_self] at c9b0x)
     have c9b1 : decide (0 ≤ a1_0) = true := decide_eq_true c9
     clear c9
     by_cases c10 : a1_0 ≤ (a0.size : Int)
     ·rw [if_pos c10] at H
      have c10b0 := eq_true c10
      try (have c10b0x := c10b0; simp only [ByteArray.size_extract, Nat.min_self] at c10b0x)
      have c10b1 : decide (a1_0 ≤ (a0.size : Int)) = true := decide_eq_true c10
      clear c10
      replace H := Option.bind_eq_some_iff.mp H
      obtain ⟨t120, A110, H⟩ := H
      replace H : (some t120) = some r := H
      have A11 := Aside0.mk A110
      clear A110
      obtain rfl := Option.some.inj H
      go_enter Try.func23, Try.ntmps23
      go_wp2_with (first | ((with_reducible refine gate_dst (N := 3) rfl ?_); refine be_ (N := 3) (cs := #[.int .i64 a1_0, .string a1_1, .string a1_2]) (t := 24) (h := ?_); intro gb116 hg w12 hbox hb; have BK116 := Aside0.mk (hbox); have GW116 := gw_ HB hg; have GE116 := gw_ HB hg; replace HB := bs_ HB hb; clear hb hbox hg; obtain ⟨hcz13_0, hcz13_1, hcz13_2, hfz13_0, hfz13_1, hfz13_2⟩ := bc3_ BK116) | (go_at_call 65; (with_reducible refine (utf_Place.calls k a0 a1_0 true _ A3.out).mono ?_); rintro e w14 ⟨rfl, hb⟩; replace BK116 := bb_ BK116 hb; replace HB := bs_ HB hb; (try clear hb); (try clear hb2); (try clear hk); (try clear hi); obtain ⟨hcz15_0, hcz15_1, hcz15_2, hfz15_0, hfz15_1, hfz15_2⟩ := bc3_ BK116) | (go_at_call 26; (with_reducible refine (utf_Valid.calls k a1_1 true _ A5.out).mono ?_); rintro e w16 ⟨rfl, hb⟩; replace BK116 := bb_ BK116 hb; replace HB := bs_ HB hb; (try clear hb); (try clear hb2); (try clear hk); (try clear hi); obtain ⟨hcz17_0, hcz17_1, hcz17_2, hfz17_0, hfz17_1, hfz17_2⟩ := bc3_ BK116) | (go_at_call 26; (with_reducible refine (utf_Valid.calls k a1_2 true _ A7.out).mono ?_); rintro e w18 ⟨rfl, hb⟩; replace BK116 := bb_ BK116 hb; replace HB := bs_ HB hb; (try clear hb); (try clear hb2); (try clear hk); (try clear hi); obtain ⟨hcz19_0, hcz19_1, hcz19_2, hfz19_0, hfz19_1, hfz19_2⟩ := bc3_ BK116) | (go_at_call 66; (with_reducible refine (strings_HasPrefix.calls (a0.extract (a1_0 : Int).toNat a0.size) a1_1 t120 _ A11.out).mono ?_); rintro e w' ⟨rfl, ⟨nd, rfl⟩⟩; (try first | exact ⟨rfl, _, World.drewN_drewN _ _ _⟩ | exact ⟨rfl, _, Eq.trans (World.drewN_drewN _ _ _) (congrArg (World.drewN _) (Nat.add_assoc _ _ _))⟩)))
      repeat (go_quiet (first | ((with_reducible refine gate_dst (N := 3) rfl ?_); refine be_ (N := 3) (cs := #[.int .i64 a1_0, .string a1_1, .string a1_2]) (t := 24) (h := ?_); intro gb116 hg w12 hbox hb; have BK116 := Aside0.mk (hbox); have GW116 := gw_ HB hg; have GE116 := gw_ HB hg; replace HB := bs_ HB hb; clear hb hbox hg; obtain ⟨hcz13_0, hcz13_1, hcz13_2, hfz13_0, hfz13_1, hfz13_2⟩ := bc3_ BK116) | (go_at_call 65; (with_reducible refine (utf_Place.calls k a0 a1_0 true _ A3.out).mono ?_); rintro e w14 ⟨rfl, hb⟩; replace BK116 := bb_ BK116 hb; replace HB := bs_ HB hb; (try clear hb); (try clear hb2); (try clear hk); (try clear hi); obtain ⟨hcz15_0, hcz15_1, hcz15_2, hfz15_0, hfz15_1, hfz15_2⟩ := bc3_ BK116) | (go_at_call 26; (with_reducible refine (utf_Valid.calls k a1_1 true _ A5.out).mono ?_); rintro e w16 ⟨rfl, hb⟩; replace BK116 := bb_ BK116 hb; replace HB := bs_ HB hb; (try clear hb); (try clear hb2); (try clear hk); (try clear hi); obtain ⟨hcz17_0, hcz17_1, hcz17_2, hfz17_0, hfz17_1, hfz17_2⟩ := bc3_ BK116) | (go_at_call 26; (with_reducible refine (utf_Valid.calls k a1_2 true _ A7.out).mono ?_); rintro e w18 ⟨rfl, hb⟩; replace BK116 := bb_ BK116 hb; replace HB := bs_ HB hb; (try clear hb); (try clear hb2); (try clear hk); (try clear hi); obtain ⟨hcz19_0, hcz19_1, hcz19_2, hfz19_0, hfz19_1, hfz19_2⟩ := bc3_ BK116) | (go_at_call 66; (with_reducible refine (strings_HasPrefix.calls (a0.extract (a1_0 : Int).toNat a0.size) a1_1 t120 _ A11.out).mono ?_); rintro e w' ⟨rfl, ⟨nd, rfl⟩⟩; (try first | exact ⟨rfl, _, World.drewN_drewN _ _ _⟩ | exact ⟨rfl, _, Eq.trans (World.drewN_drewN _ _ _) (congrArg (World.drewN _) (Nat.add_assoc _ _ _))⟩))); try go_wp2_with (first | ((with_reducible refine gate_dst (N := 3) rfl ?_); refine be_ (N := 3) (cs := #[.int .i64 a1_0, .string a1_1, .string a1_2]) (t := 24) (h := ?_); intro gb116 hg w12 hbox hb; have BK116 := Aside0.mk (hbox); have GW116 := gw_ HB hg; have GE116 := gw_ HB hg; replace HB := bs_ HB hb; clear hb hbox hg; obtain ⟨hcz13_0, hcz13_1, hcz13_2, hfz13_0, hfz13_1, hfz13_2⟩ := bc3_ BK116) | (go_at_call 65; (with_reducible refine (utf_Place.calls k a0 a1_0 true _ A3.out).mono ?_); rintro e w14 ⟨rfl, hb⟩; replace BK116 := bb_ BK116 hb; replace HB := bs_ HB hb; (try clear hb); (try clear hb2); (try clear hk); (try clear hi); obtain ⟨hcz15_0, hcz15_1, hcz15_2, hfz15_0, hfz15_1, hfz15_2⟩ := bc3_ BK116) | (go_at_call 26; (with_reducible refine (utf_Valid.calls k a1_1 true _ A5.out).mono ?_); rintro e w16 ⟨rfl, hb⟩; replace BK116 := bb_ BK116 hb; replace HB := bs_ HB hb; (try clear hb); (try clear hb2); (try clear hk); (try clear hi); obtain ⟨hcz17_0, hcz17_1, hcz17_2, hfz17_0, hfz17_1, hfz17_2⟩ := bc3_ BK116) | (go_at_call 26; (with_reducible refine (utf_Valid.calls k a1_2 true _ A7.out).mono ?_); rintro e w18 ⟨rfl, hb⟩; replace BK116 := bb_ BK116 hb; replace HB := bs_ HB hb; (try clear hb); (try clear hb2); (try clear hk); (try clear hi); obtain ⟨hcz19_0, hcz19_1, hcz19_2, hfz19_0, hfz19_1, hfz19_2⟩ := bc3_ BK116) | (go_at_call 66; (with_reducible refine (strings_HasPrefix.calls (a0.extract (a1_0 : Int).toNat a0.size) a1_1 t120 _ A11.out).mono ?_); rintro e w' ⟨rfl, ⟨nd, rfl⟩⟩; (try first | exact ⟨rfl, _, World.drewN_drewN _ _ _⟩ | exact ⟨rfl, _, Eq.trans (World.drewN_drewN _ _ _) (congrArg (World.drewN _) (Nat.add_assoc _ _ _))⟩))))
      go_ret
      exact ⟨er_, hb_ HB⟩
     ·rw [if_neg c10] at H
      exact absurd H (by simp)
    ·rw [if_neg c9] at H
     exact absurd H (by simp)
   ·replace c8 := Bool.eq_false_iff.mpr c8
    subst c8
    have H1 : (some false) = some r := by rw [if_neg (show ¬ (false = true) by decide)] at H; exact H
    clear H
    have H := H1
    clear H1
    obtain rfl := Option.some.inj H
    go_enter Try.func23, Try.ntmps23
    go_wp2_with (first | ((with_reducible refine gate_dst (N := 3) rfl ?_); refine be_ (N := 3) (cs := #[.int .i64 a1_0, .string a1_1, .string a1_2]) (t := 24) (h := ?_); intro gb116 hg w20 hbox hb; have BK116 := Aside0.mk (hbox); have GW116 := gw_ HB hg; have GE116 := gw_ HB hg; replace HB := bs_ HB hb; clear hb hbox hg; obtain ⟨hcz21_0, hcz21_1, hcz21_2, hfz21_0, hfz21_1, hfz21_2⟩ := bc3_ BK116) | (go_at_call 65; (with_reducible refine (utf_Place.calls k a0 a1_0 true _ A3.out).mono ?_); rintro e w22 ⟨rfl, hb⟩; replace BK116 := bb_ BK116 hb; replace HB := bs_ HB hb; (try clear hb); (try clear hb2); (try clear hk); (try clear hi); obtain ⟨hcz23_0, hcz23_1, hcz23_2, hfz23_0, hfz23_1, hfz23_2⟩ := bc3_ BK116) | (go_at_call 26; (with_reducible refine (utf_Valid.calls k a1_1 true _ A5.out).mono ?_); rintro e w24 ⟨rfl, hb⟩; replace BK116 := bb_ BK116 hb; replace HB := bs_ HB hb; (try clear hb); (try clear hb2); (try clear hk); (try clear hi); obtain ⟨hcz25_0, hcz25_1, hcz25_2, hfz25_0, hfz25_1, hfz25_2⟩ := bc3_ BK116) | (go_at_call 26; (with_reducible refine (utf_Valid.calls k a1_2 false _ A7.out).mono ?_); rintro e w26 ⟨rfl, hb⟩; replace BK116 := bb_ BK116 hb; replace HB := bs_ HB hb; (try clear hb); (try clear hb2); (try clear hk); (try clear hi)))
    repeat (go_quiet (first | ((with_reducible refine gate_dst (N := 3) rfl ?_); refine be_ (N := 3) (cs := #[.int .i64 a1_0, .string a1_1, .string a1_2]) (t := 24) (h := ?_); intro gb116 hg w20 hbox hb; have BK116 := Aside0.mk (hbox); have GW116 := gw_ HB hg; have GE116 := gw_ HB hg; replace HB := bs_ HB hb; clear hb hbox hg; obtain ⟨hcz21_0, hcz21_1, hcz21_2, hfz21_0, hfz21_1, hfz21_2⟩ := bc3_ BK116) | (go_at_call 65; (with_reducible refine (utf_Place.calls k a0 a1_0 true _ A3.out).mono ?_); rintro e w22 ⟨rfl, hb⟩; replace BK116 := bb_ BK116 hb; replace HB := bs_ HB hb; (try clear hb); (try clear hb2); (try clear hk); (try clear hi); obtain ⟨hcz23_0, hcz23_1, hcz23_2, hfz23_0, hfz23_1, hfz23_2⟩ := bc3_ BK116) | (go_at_call 26; (with_reducible refine (utf_Valid.calls k a1_1 true _ A5.out).mono ?_); rintro e w24 ⟨rfl, hb⟩; replace BK116 := bb_ BK116 hb; replace HB := bs_ HB hb; (try clear hb); (try clear hb2); (try clear hk); (try clear hi); obtain ⟨hcz25_0, hcz25_1, hcz25_2, hfz25_0, hfz25_1, hfz25_2⟩ := bc3_ BK116) | (go_at_call 26; (with_reducible refine (utf_Valid.calls k a1_2 false _ A7.out).mono ?_); rintro e w26 ⟨rfl, hb⟩; replace BK116 := bb_ BK116 hb; replace HB := bs_ HB hb; (try clear hb); (try clear hb2); (try clear hk); (try clear hi))); try go_wp2_with (first | ((with_reducible refine gate_dst (N := 3) rfl ?_); refine be_ (N := 3) (cs := #[.int .i64 a1_0, .string a1_1, .string a1_2]) (t := 24) (h := ?_); intro gb116 hg w20 hbox hb; have BK116 := Aside0.mk (hbox); have GW116 := gw_ HB hg; have GE116 := gw_ HB hg; replace HB := bs_ HB hb; clear hb hbox hg; obtain ⟨hcz21_0, hcz21_1, hcz21_2, hfz21_0, hfz21_1, hfz21_2⟩ := bc3_ BK116) | (go_at_call 65; (with_reducible refine (utf_Place.calls k a0 a1_0 true _ A3.out).mono ?_); rintro e w22 ⟨rfl, hb⟩; replace BK116 := bb_ BK116 hb; replace HB := bs_ HB hb; (try clear hb); (try clear hb2); (try clear hk); (try clear hi); obtain ⟨hcz23_0, hcz23_1, hcz23_2, hfz23_0, hfz23_1, hfz23_2⟩ := bc3_ BK116) | (go_at_call 26; (with_reducible refine (utf_Valid.calls k a1_1 true _ A5.out).mono ?_); rintro e w24 ⟨rfl, hb⟩; replace BK116 := bb_ BK116 hb; replace HB := bs_ HB hb; (try clear hb); (try clear hb2); (try clear hk); (try clear hi); obtain ⟨hcz25_0, hcz25_1, hcz25_2, hfz25_0, hfz25_1, hfz25_2⟩ := bc3_ BK116) | (go_at_call 26; (with_reducible refine (utf_Valid.calls k a1_2 false _ A7.out).mono ?_); rintro e w26 ⟨rfl, hb⟩; replace BK116 := bb_ BK116 hb; replace HB := bs_ HB hb; (try clear hb); (try clear hb2); (try clear hk); (try clear hi))))
    go_ret
    exact ⟨er_, hb_ HB⟩
  ·replace c6 := Bool.eq_false_iff.mpr c6
   subst c6
   have H1 : (some false) = some r := by rw [if_neg (show ¬ (false = true) by decide)] at H; exact H
   clear H
   have H := H1
   clear H1
   obtain rfl := Option.some.inj H
   go_enter Try.func23, Try.ntmps23
   go_wp2_with (first | ((with_reducible refine gate_dst (N := 3) rfl ?_); refine be_ (N := 3) (cs := #[.int .i64 a1_0, .string a1_1, .string a1_2]) (t := 24) (h := ?_); intro gb116 hg w27 hbox hb; have BK116 := Aside0.mk (hbox); have GW116 := gw_ HB hg; have GE116 := gw_ HB hg; replace HB := bs_ HB hb; clear hb hbox hg; obtain ⟨hcz28_0, hcz28_1, hcz28_2, hfz28_0, hfz28_1, hfz28_2⟩ := bc3_ BK116) | (go_at_call 65; (with_reducible refine (utf_Place.calls k a0 a1_0 true _ A3.out).mono ?_); rintro e w29 ⟨rfl, hb⟩; replace BK116 := bb_ BK116 hb; replace HB := bs_ HB hb; (try clear hb); (try clear hb2); (try clear hk); (try clear hi); obtain ⟨hcz30_0, hcz30_1, hcz30_2, hfz30_0, hfz30_1, hfz30_2⟩ := bc3_ BK116) | (go_at_call 26; (with_reducible refine (utf_Valid.calls k a1_1 false _ A5.out).mono ?_); rintro e w31 ⟨rfl, hb⟩; replace BK116 := bb_ BK116 hb; replace HB := bs_ HB hb; (try clear hb); (try clear hb2); (try clear hk); (try clear hi)))
   repeat (go_quiet (first | ((with_reducible refine gate_dst (N := 3) rfl ?_); refine be_ (N := 3) (cs := #[.int .i64 a1_0, .string a1_1, .string a1_2]) (t := 24) (h := ?_); intro gb116 hg w27 hbox hb; have BK116 := Aside0.mk (hbox); have GW116 := gw_ HB hg; have GE116 := gw_ HB hg; replace HB := bs_ HB hb; clear hb hbox hg; obtain ⟨hcz28_0, hcz28_1, hcz28_2, hfz28_0, hfz28_1, hfz28_2⟩ := bc3_ BK116) | (go_at_call 65; (with_reducible refine (utf_Place.calls k a0 a1_0 true _ A3.out).mono ?_); rintro e w29 ⟨rfl, hb⟩; replace BK116 := bb_ BK116 hb; replace HB := bs_ HB hb; (try clear hb); (try clear hb2); (try clear hk); (try clear hi); obtain ⟨hcz30_0, hcz30_1, hcz30_2, hfz30_0, hfz30_1, hfz30_2⟩ := bc3_ BK116) | (go_at_call 26; (with_reducible refine (utf_Valid.calls k a1_1 false _ A5.out).mono ?_); rintro e w31 ⟨rfl, hb⟩; replace BK116 := bb_ BK116 hb; replace HB := bs_ HB hb; (try clear hb); (try clear hb2); (try clear hk); (try clear hi))); try go_wp2_with (first | ((with_reducible refine gate_dst (N := 3) rfl ?_); refine be_ (N := 3) (cs := #[.int .i64 a1_0, .string a1_1, .string a1_2]) (t := 24) (h := ?_); intro gb116 hg w27 hbox hb; have BK116 := Aside0.mk (hbox); have GW116 := gw_ HB hg; have GE116 := gw_ HB hg; replace HB := bs_ HB hb; clear hb hbox hg; obtain ⟨hcz28_0, hcz28_1, hcz28_2, hfz28_0, hfz28_1, hfz28_2⟩ := bc3_ BK116) | (go_at_call 65; (with_reducible refine (utf_Place.calls k a0 a1_0 true _ A3.out).mono ?_); rintro e w29 ⟨rfl, hb⟩; replace BK116 := bb_ BK116 hb; replace HB := bs_ HB hb; (try clear hb); (try clear hb2); (try clear hk); (try clear hi); obtain ⟨hcz30_0, hcz30_1, hcz30_2, hfz30_0, hfz30_1, hfz30_2⟩ := bc3_ BK116) | (go_at_call 26; (with_reducible refine (utf_Valid.calls k a1_1 false _ A5.out).mono ?_); rintro e w31 ⟨rfl, hb⟩; replace BK116 := bb_ BK116 hb; replace HB := bs_ HB hb; (try clear hb); (try clear hb2); (try clear hk); (try clear hi))))
   go_ret
   exact ⟨er_, hb_ HB⟩
 ·replace c4 := Bool.eq_false_iff.mpr c4
  subst c4
  have H1 : (some false) = some r := by rw [if_neg (show ¬ (false = true) by decide)] at H; exact H
  clear H
  have H := H1
  clear H1
  obtain rfl := Option.some.inj H
  go_enter Try.func23, Try.ntmps23
  go_wp2_with (first | ((with_reducible refine gate_dst (N := 3) rfl ?_); refine be_ (N := 3) (cs := #[.int .i64 a1_0, .string a1_1, .string a1_2]) (t := 24) (h := ?_); intro gb116 hg w32 hbox hb; have BK116 := Aside0.mk (hbox); have GW116 := gw_ HB hg; have GE116 := gw_ HB hg; replace HB := bs_ HB hb; clear hb hbox hg; obtain ⟨hcz33_0, hcz33_1, hcz33_2, hfz33_0, hfz33_1, hfz33_2⟩ := bc3_ BK116) | (go_at_call 65; (with_reducible refine (utf_Place.calls k a0 a1_0 false _ A3.out).mono ?_); rintro e w34 ⟨rfl, hb⟩; replace BK116 := bb_ BK116 hb; replace HB := bs_ HB hb; (try clear hb); (try clear hb2); (try clear hk); (try clear hi)))
  repeat (go_quiet (first | ((with_reducible refine gate_dst (N := 3) rfl ?_); refine be_ (N := 3) (cs := #[.int .i64 a1_0, .string a1_1, .string a1_2]) (t := 24) (h := ?_); intro gb116 hg w32 hbox hb; have BK116 := Aside0.mk (hbox); have GW116 := gw_ HB hg; have GE116 := gw_ HB hg; replace HB := bs_ HB hb; clear hb hbox hg; obtain ⟨hcz33_0, hcz33_1, hcz33_2, hfz33_0, hfz33_1, hfz33_2⟩ := bc3_ BK116) | (go_at_call 65; (with_reducible refine (utf_Place.calls k a0 a1_0 false _ A3.out).mono ?_); rintro e w34 ⟨rfl, hb⟩; replace BK116 := bb_ BK116 hb; replace HB := bs_ HB hb; (try clear hb); (try clear hb2); (try clear hk); (try clear hi))); try go_wp2_with (first | ((with_reducible refine gate_dst (N := 3) rfl ?_); refine be_ (N := 3) (cs := #[.int .i64 a1_0, .string a1_1, .string a1_2]) (t := 24) (h := ?_); intro gb116 hg w32 hbox hb; have BK116 := Aside0.mk (hbox); have GW116 := gw_ HB hg; have GE116 := gw_ HB hg; replace HB := bs_ HB hb; clear hb hbox hg; obtain ⟨hcz33_0, hcz33_1, hcz33_2, hfz33_0, hfz33_1, hfz33_2⟩ := bc3_ BK116) | (go_at_call 65; (with_reducible refine (utf_Place.calls k a0 a1_0 false _ A3.out).mono ?_); rintro e w34 ⟨rfl, hb⟩; replace BK116 := bb_ BK116 hb; replace HB := bs_ HB hb; (try clear hb); (try clear hb2); (try clear hk); (try clear hi))))
  go_ret
  exact ⟨er_, hb_ HB⟩

/-! ### batch_apart: function 94 -/
def batch_apart.l0 : Nat → List (S24) → Int → Option (Bool)
 | 0, _, _ => none
 | k + 1, x0, x3 => if x3 < (x0.length : Int) then (if 0 ≤ x3 then (if 0 ≤ (wrap64 (x3 - 1)) then (if (wrap64 (x3 - 1)) < (x0.length : Int) then (if ((rd_T24 x0 x3).f0) < ((rd_T24 x0 (wrap64 (x3 - 1))).f0) then (some false) else (if (wrap64 (((rd_T24 x0 x3).f0) - ((rd_T24 x0 (wrap64 (x3 - 1))).f0))) < (((rd_T24 x0 (wrap64 (x3 - 1))).f1).size : Int) then (some false) else (batch_apart.l0 k x0 (wrap64 (x3 + 1))))) else (none)) else (none)) else (none)) else (some true)
def batch_apart.f (k : Nat) (l0 : List (S24)) : Option (Bool) := batch_apart.l0 k l0 1
theorem batch_apart.mono_l : ∀ k, (∀ y0 y1, LeO (batch_apart.l0 k y0 y1) (batch_apart.l0 (k + 1) y0 y1))
 | 0 => fun _ _ r h => by simp [batch_apart.l0] at h
 | k + 1 => by
  have ih0 := batch_apart.mono_l k
  ·intro y0 y1
   unfold batch_apart.l0
   repeat' first
   | (with_reducible exact ih0 _ _)
   | (with_reducible exact LeO.refl _)
   | (with_reducible exact LeO.none _)
   | (with_reducible refine LeO.ite ?_ ?_)
   | (with_reducible refine LeO.bind ?_ (fun _ => ?_))
   | exact ih0 _ _
   | exact LeO.none _
   | refine LeO.ite ?_ ?_
   | refine LeO.bind ?_ (fun _ => ?_)
theorem batch_apart.mono : ∀ a0 k, LeO (batch_apart.f k a0) (batch_apart.f (k + 1) a0) := by
 intro a0 k
 have ih0 := batch_apart.mono_l k
 unfold batch_apart.f
 repeat' first
   | (with_reducible exact ih0 _ _)
   | (with_reducible exact LeO.refl _)
   | (with_reducible exact LeO.none _)
   | (with_reducible refine LeO.ite ?_ ?_)
   | (with_reducible refine LeO.bind ?_ (fun _ => ?_))
   | exact ih0 _ _
   | exact LeO.none _
   | refine LeO.ite ?_ ?_
   | refine LeO.bind ?_ (fun _ => ?_)
set_option maxHeartbeats 8000000 in
set_option maxRecDepth 100000 in
theorem batch_apart.calls (k : Nat) (A0 : Option Addr) (c0 : Nat) (l0 : List (S24)) (r : Bool) (w : World) (hr0 : Kd.C k24 w A0 l0.length l0) (hc0 : l0.length ≤ c0) (h : batch_apart.f k l0 = some r) :
  Calls Try.prog 94 #[.slice A0 l0.length c0] w fun e w' => e = .returned (.bool r) ∧ Drawn0 w w' := by
 have HR0 := Aside0.mk hr0
 have HC0 := Aside0.mk hc0
 clear hr0 hc0
 have H : (batch_apart.l0 k l0 1) = some r := h
 clear h
 have H' := Aside0.mk H
 clear H
 go_enter Try.func94, Try.ntmps94
 go_wp2
 repeat (go_quiet (fail); try go_wp2)
 go_loopg [3] k (fun kq v3 w' => ∃ (x3_1 : Int), v3 = .int .i64 x3_1 ∧ Aside0 (batch_apart.l0 kq l0 x3_1 = some r) ∧ Aside0 (kq ≤ k) ∧ Drawn0 w w')
 case atStart => exact ⟨(1), es_, H', ⟨Nat.le_refl _⟩, by repeat (first | exact Drawn0.refl _ | apply Drawn0.step)⟩
 case round =>
  clear H'
  obtain ⟨x3_1, rfl, HA, HK1, ⟨m1, rfl⟩⟩ := hrel
  cases gk with
  | zero => exact absurd HA.out (by simp [batch_apart.l0])
  | succ k1 =>
   have H := HA.out
   clear HA
   simp only [batch_apart.l0] at H
   by_cases c2 : x3_1 < (l0.length : Int)
   ·rw [if_pos c2] at H
    have c2b0 : decide (x3_1 < (l0.length : Int)) = true := decide_eq_true c2
    clear c2
    by_cases c3 : 0 ≤ x3_1
    ·rw [if_pos c3] at H
     have c3b0 : decide (0 ≤ x3_1) = true := decide_eq_true c3
     clear c3
     obtain ⟨ji4, hji4⟩ : ∃ j_ : Int, (wrap64 (x3_1 - 1)) = j_ := ⟨_, rfl⟩
     replace H : (if 0 ≤ (ji4) then (if (ji4) < (l0.length : Int) then (if ((rd_T24 l0 x3_1).f0) < ((rd_T24 l0 (ji4)).f0) then (some false) else (if (wrap64 (((rd_T24 l0 x3_1).f0) - ((rd_T24 l0 (ji4)).f0))) < (((rd_T24 l0 (ji4)).f1).size : Int) then (some false) else (batch_apart.l0 k1 l0 (wrap64 (x3_1 + 1))))) else (none)) else (none)) = some r := by first | (rw [hji4] at H; exact H) | (simp only [hji4] at H ⊢; exact H)
     have hji4w : (IntKind.i64.wrap (x3_1 - 1)) = ji4 := (i64_w _).trans hji4
     by_cases c5 : 0 ≤ (ji4)
     ·rw [if_pos c5] at H
      have c5b0 : decide (0 ≤ (ji4)) = true := decide_eq_true c5
      clear c5
      by_cases c6 : (ji4) < (l0.length : Int)
      ·rw [if_pos c6] at H
       have c6b0 : decide ((ji4) < (l0.length : Int)) = true := decide_eq_true c6
       clear c6
       by_cases c7 : ((rd_T24 l0 x3_1).f0) < ((rd_T24 l0 (ji4)).f0)
       ·rw [if_pos c7] at H
        have c7b0 : decide (((rd_T24 l0 x3_1).f0) < ((rd_T24 l0 (ji4)).f0)) = true := decide_eq_true c7
        clear c7
        obtain rfl := Option.some.inj H
        have p121 : 0 ≤ (x3_1 : Int) := of_decide_eq_true as_
        have q121 : x3_1 < (l0.length : Int) := of_decide_eq_true as_
        obtain ⟨ad121, e121, hx121_0, hx121_1, hx121_2⟩ := at_T24 HR0.out x3_1 p121 q121
        cases e121
        replace p121 := eq_true p121
        replace q121 := eq_true q121
        have p122 : 0 ≤ ((ji4) : Int) := of_decide_eq_true as_
        have q122 : (ji4) < (l0.length : Int) := of_decide_eq_true as_
        obtain ⟨ad122, e122, hx122_0, hx122_1, hx122_2⟩ := at_T24 HR0.out (ji4) p122 q122
        obtain rfl : ad121 = ad122 := (by injection e122)
        replace p122 := eq_true p122
        replace q122 := eq_true q122
        go_wp2
        repeat (go_quiet (fail); try go_wp2)
        go_ret
        exact ⟨by first | rfl | (simp; done) | (simp only [← hji4] <;> (first | rfl | simp)) | (simp [*]; done), by repeat (first | exact Drawn0.refl _ | apply Drawn0.step)⟩
       ·rw [if_neg c7] at H
        have c7b0 : decide (((rd_T24 l0 x3_1).f0) < ((rd_T24 l0 (ji4)).f0)) = false := decide_eq_false c7
        clear c7
        by_cases c8 : (wrap64 (((rd_T24 l0 x3_1).f0) - ((rd_T24 l0 (ji4)).f0))) < (((rd_T24 l0 (ji4)).f1).size : Int)
        ·rw [if_pos c8] at H
         have c8b0 : decide ((wrap64 (((rd_T24 l0 x3_1).f0) - ((rd_T24 l0 (ji4)).f0))) < (((rd_T24 l0 (ji4)).f1).size : Int)) = true := decide_eq_true c8
         clear c8
         obtain rfl := Option.some.inj H
         have p121 : 0 ≤ (x3_1 : Int) := of_decide_eq_true as_
         have q121 : x3_1 < (l0.length : Int) := of_decide_eq_true as_
         obtain ⟨ad121, e121, hx121_0, hx121_1, hx121_2⟩ := at_T24 HR0.out x3_1 p121 q121
         cases e121
         replace p121 := eq_true p121
         replace q121 := eq_true q121
         have p122 : 0 ≤ ((ji4) : Int) := of_decide_eq_true as_
         have q122 : (ji4) < (l0.length : Int) := of_decide_eq_true as_
         obtain ⟨ad122, e122, hx122_0, hx122_1, hx122_2⟩ := at_T24 HR0.out (ji4) p122 q122
         obtain rfl : ad121 = ad122 := (by injection e122)
         replace p122 := eq_true p122
         replace q122 := eq_true q122
         have p123 : 0 ≤ (x3_1 : Int) := of_decide_eq_true as_
         have q123 : x3_1 < (l0.length : Int) := of_decide_eq_true as_
         obtain ⟨ad123, e123, hx123_0, hx123_1, hx123_2⟩ := at_T24 HR0.out x3_1 p123 q123
         obtain rfl : ad121 = ad123 := (by injection e123)
         replace p123 := eq_true p123
         replace q123 := eq_true q123
         have p124 : 0 ≤ ((ji4) : Int) := of_decide_eq_true as_
         have q124 : (ji4) < (l0.length : Int) := of_decide_eq_true as_
         obtain ⟨ad124, e124, hx124_0, hx124_1, hx124_2⟩ := at_T24 HR0.out (ji4) p124 q124
         obtain rfl : ad121 = ad124 := (by injection e124)
         replace p124 := eq_true p124
         replace q124 := eq_true q124
         have p125 : 0 ≤ ((ji4) : Int) := of_decide_eq_true as_
         have q125 : (ji4) < (l0.length : Int) := of_decide_eq_true as_
         obtain ⟨ad125, e125, hx125_0, hx125_1, hx125_2⟩ := at_T24 HR0.out (ji4) p125 q125
         obtain rfl : ad121 = ad125 := (by injection e125)
         replace p125 := eq_true p125
         replace q125 := eq_true q125
         go_wp2
         repeat (go_quiet (fail); try go_wp2)
         go_ret
         exact ⟨by first | rfl | (simp; done) | (simp only [← hji4] <;> (first | rfl | simp)) | (simp [*]; done), by repeat (first | exact Drawn0.refl _ | apply Drawn0.step)⟩
        ·rw [if_neg c8] at H
         have c8b0 : decide ((wrap64 (((rd_T24 l0 x3_1).f0) - ((rd_T24 l0 (ji4)).f0))) < (((rd_T24 l0 (ji4)).f1).size : Int)) = false := decide_eq_false c8
         clear c8
         have H' := Aside0.mk H
         clear H
         have p121 : 0 ≤ (x3_1 : Int) := of_decide_eq_true as_
         have q121 : x3_1 < (l0.length : Int) := of_decide_eq_true as_
         obtain ⟨ad121, e121, hx121_0, hx121_1, hx121_2⟩ := at_T24 HR0.out x3_1 p121 q121
         cases e121
         replace p121 := eq_true p121
         replace q121 := eq_true q121
         have p122 : 0 ≤ ((ji4) : Int) := of_decide_eq_true as_
         have q122 : (ji4) < (l0.length : Int) := of_decide_eq_true as_
         obtain ⟨ad122, e122, hx122_0, hx122_1, hx122_2⟩ := at_T24 HR0.out (ji4) p122 q122
         obtain rfl : ad121 = ad122 := (by injection e122)
         replace p122 := eq_true p122
         replace q122 := eq_true q122
         have p123 : 0 ≤ (x3_1 : Int) := of_decide_eq_true as_
         have q123 : x3_1 < (l0.length : Int) := of_decide_eq_true as_
         obtain ⟨ad123, e123, hx123_0, hx123_1, hx123_2⟩ := at_T24 HR0.out x3_1 p123 q123
         obtain rfl : ad121 = ad123 := (by injection e123)
         replace p123 := eq_true p123
         replace q123 := eq_true q123
         have p124 : 0 ≤ ((ji4) : Int) := of_decide_eq_true as_
         have q124 : (ji4) < (l0.length : Int) := of_decide_eq_true as_
         obtain ⟨ad124, e124, hx124_0, hx124_1, hx124_2⟩ := at_T24 HR0.out (ji4) p124 q124
         obtain rfl : ad121 = ad124 := (by injection e124)
         replace p124 := eq_true p124
         replace q124 := eq_true q124
         have p125 : 0 ≤ ((ji4) : Int) := of_decide_eq_true as_
         have q125 : (ji4) < (l0.length : Int) := of_decide_eq_true as_
         obtain ⟨ad125, e125, hx125_0, hx125_1, hx125_2⟩ := at_T24 HR0.out (ji4) p125 q125
         obtain rfl : ad121 = ad125 := (by injection e125)
         replace p125 := eq_true p125
         replace q125 := eq_true q125
         go_wp2
         repeat (go_quiet (fail); try go_wp2)
         go_roundg k1
         case measure => have := HK1.out; omega
         case rel => exact ⟨(wrap64 (x3_1 + 1)), es_, H', ⟨by have := HK1.out; omega⟩, by repeat (first | exact Drawn0.refl _ | apply Drawn0.step)⟩
      ·rw [if_neg c6] at H
       exact absurd H (by simp)
     ·rw [if_neg c5] at H
      exact absurd H (by simp)
    ·rw [if_neg c3] at H
     exact absurd H (by simp)
   ·rw [if_neg c2] at H
    have c2b0 : decide (x3_1 < (l0.length : Int)) = false := decide_eq_false c2
    clear c2
    obtain rfl := Option.some.inj H
    go_wp2
    repeat (go_quiet (fail); try go_wp2)
    go_ret
    exact ⟨by first | rfl | (simp; done) | (simp [*]; done), by repeat (first | exact Drawn0.refl _ | apply Drawn0.step)⟩

/-! ### batch_Right: function 73 -/
def batch_Right.l0 : Nat → ByteArray → List (S24) → List (S24) → Int → Int → Option (Bool)
 | 0, _, _, _, _, _ => none
 | k + 1, x0, x1, x7, x8, x9 => if x9 < x8 then (if 0 ≤ x9 then (if x9 < (x7.length : Int) then ((change_Fits.f k x0 ((rd_T24 x7 x9).f0) ((rd_T24 x7 x9).f1) ((rd_T24 x7 x9).f2)).bind fun t128 => (if t128 = true then (batch_Right.l0 k x0 x1 x7 x8 (wrap64 (x9 + 1))) else (some false))) else (none)) else (none)) else ((batch_apart.f k x1).bind fun t129 => (some t129))
def batch_Right.f (k : Nat) (a0 : ByteArray) (l1 : List (S24)) : Option (Bool) := batch_Right.l0 k a0 l1 l1 (l1.length : Int) 0
theorem batch_Right.mono_l : ∀ k, (∀ y0 y1 y2 y3 y4, LeO (batch_Right.l0 k y0 y1 y2 y3 y4) (batch_Right.l0 (k + 1) y0 y1 y2 y3 y4))
 | 0 => fun _ _ _ _ _ r h => by simp [batch_Right.l0] at h
 | k + 1 => by
  have ih0 := batch_Right.mono_l k
  ·intro y0 y1 y2 y3 y4
   unfold batch_Right.l0
   repeat' first
   | (with_reducible exact ih0 _ _ _ _ _)
   | (with_reducible exact batch_apart.mono _ _)
   | (with_reducible exact change_Fits.mono _ _ _ _ _)
   | (with_reducible exact LeO.refl _)
   | (with_reducible exact LeO.none _)
   | (with_reducible refine LeO.ite ?_ ?_)
   | (with_reducible refine LeO.bind ?_ (fun _ => ?_))
   | exact ih0 _ _ _ _ _
   | exact batch_apart.mono _ _
   | exact change_Fits.mono _ _ _ _ _
   | exact LeO.none _
   | refine LeO.ite ?_ ?_
   | refine LeO.bind ?_ (fun _ => ?_)
theorem batch_Right.mono : ∀ a0 a1 k, LeO (batch_Right.f k a0 a1) (batch_Right.f (k + 1) a0 a1) := by
 intro a0 a1 k
 have ih0 := batch_Right.mono_l k
 unfold batch_Right.f
 repeat' first
   | (with_reducible exact ih0 _ _ _ _ _)
   | (with_reducible exact batch_apart.mono _ _)
   | (with_reducible exact change_Fits.mono _ _ _ _ _)
   | (with_reducible exact LeO.refl _)
   | (with_reducible exact LeO.none _)
   | (with_reducible refine LeO.ite ?_ ?_)
   | (with_reducible refine LeO.bind ?_ (fun _ => ?_))
   | exact ih0 _ _ _ _ _
   | exact batch_apart.mono _ _
   | exact change_Fits.mono _ _ _ _ _
   | exact LeO.none _
   | refine LeO.ite ?_ ?_
   | refine LeO.bind ?_ (fun _ => ?_)
set_option maxHeartbeats 8000000 in
set_option maxRecDepth 100000 in
theorem batch_Right.calls (k : Nat) (a0 : ByteArray) (A1 : Option Addr) (c1 : Nat) (l1 : List (S24)) (r : Bool) (w : World) (hr1 : Kd.C k24 w A1 l1.length l1) (hc1 : l1.length ≤ c1) (h : batch_Right.f k a0 l1 = some r) :
  Calls Try.prog 73 #[.string a0, .slice A1 l1.length c1] w fun e w' => e = .returned (.bool r) ∧ Below w.heap.size w w' := by
 have hu24 := Try.underlying24
 have HR1 := Aside0.mk hr1
 have HC1 := Aside0.mk hc1
 clear hr1 hc1
 have HB := Aside0.mk (Below.refl w.heap.size w)
 have H : (batch_Right.l0 k a0 l1 l1 (l1.length : Int) 0) = some r := h
 clear h
 have H' := Aside0.mk H
 clear H
 go_enter Try.func73, Try.ntmps73
 go_wp2
 go_loopg [9] k (fun kq v9 w' => ∃ (x9_1 : Int), v9 = .int .i64 x9_1 ∧ Aside0 (batch_Right.l0 kq a0 l1 l1 (l1.length : Int) x9_1 = some r) ∧ Aside0 (kq ≤ k) ∧ Aside0 (Below w.heap.size w w'))
 case atStart => exact ⟨(0), es_, H', ⟨Nat.le_refl _⟩, ⟨hb_ HB⟩⟩
 case round =>
  clear H'
  obtain ⟨x9_1, rfl, HA, HK1, HB⟩ := hrel
  cases gk with
  | zero => exact absurd HA.out (by simp [batch_Right.l0])
  | succ k1 =>
   have H := HA.out
   clear HA
   simp only [batch_Right.l0] at H
   by_cases c3 : x9_1 < (l1.length : Int)
   ·rw [if_pos c3] at H
    have c3b0 : decide (x9_1 < (l1.length : Int)) = true := decide_eq_true c3
    clear c3
    by_cases c4 : 0 ≤ x9_1
    ·rw [if_pos c4] at H
     have c4b0 : decide (0 ≤ x9_1) = true := decide_eq_true c4
     clear c4
     by_cases c5 : x9_1 < (l1.length : Int)
     ·rw [if_pos c5] at H
      have c5b0 : decide (x9_1 < (l1.length : Int)) = true := decide_eq_true c5
      clear c5
      replace H := Option.bind_eq_some_iff.mp H
      obtain ⟨t128, A60, H⟩ := H
      replace H : (if t128 = true then (batch_Right.l0 k1 a0 l1 l1 (l1.length : Int) (wrap64 (x9_1 + 1))) else (some false)) = some r := H
      have A6 := Aside0.mk A60
      clear A60
      by_cases c7 : t128 = true
      ·subst c7
       have H1 : (batch_Right.l0 k1 a0 l1 l1 (l1.length : Int) (wrap64 (x9_1 + 1))) = some r := by rw [if_pos rfl] at H; exact H
       clear H
       have H := H1
       clear H1
       have H' := Aside0.mk H
       clear H
       have p126 : 0 ≤ (x9_1 : Int) := of_decide_eq_true as_
       have q126 : x9_1 < (l1.length : Int) := of_decide_eq_true as_
       obtain ⟨ad126, e126, hx126_0, hx126_1, hx126_2⟩ := at_T24b HR1 HB x9_1 p126 q126
       cases e126
       replace p126 := eq_true p126
       replace q126 := eq_true q126
       go_wp2_with (first | ((with_reducible refine gate_dst (N := 6) rfl ?_); refine be_ (N := 6) (cs := #[.int .i64 0, .string (⟨#[]⟩ : ByteArray), .string (⟨#[]⟩ : ByteArray)]) (t := 24) (h := ?_); intro gb127 hg w8 hbox hb; have BK127 := Aside0.mk (hbox); have GW127 := gw_ HB hg; have GE127 := gw_ HB hg; replace HB := bs_ HB hb; clear hb hbox hg; obtain ⟨hcz9_0, hcz9_1, hcz9_2, hfz9_0, hfz9_1, hfz9_2⟩ := bc3_ BK127) | ((with_reducible refine gate_callee (f := 23) rfl ?_); refine ge_ (some 15) rfl rfl Try.func23 (by kernel_rfl) rfl #[.string a0, .agg #[.int .i64 ((rd_T24 l1 x9_1).f0), .string ((rd_T24 l1 x9_1).f1), .string ((rd_T24 l1 x9_1).f2)]] rfl (h := ?_); (with_reducible refine (change_Fits.calls k1 a0 ((rd_T24 l1 x9_1).f0) ((rd_T24 l1 x9_1).f1) ((rd_T24 l1 x9_1).f2) true _ A6.out).mono ?_); rintro e w10 ⟨rfl, hb⟩; refine ⟨_, rfl, ?_⟩; replace BK127 := Aside0.mk (blk_below (g := gb127) (o := .cells #[.int .i64 ((rd_T24 l1 x9_1).f0), .string ((rd_T24 l1 x9_1).f1), .string ((rd_T24 l1 x9_1).f2)] 24 (0, 0)) (bp_ BK127.out) hb); replace HB := bs_ HB hb; (try clear hb); (try clear hb2); (try clear hk); (try clear hi)))
       go_roundg k1
       case measure => have := HK1.out; omega
       case rel => exact ⟨(wrap64 (x9_1 + 1)), es_, H', ⟨by have := HK1.out; omega⟩, ⟨hb_ HB⟩⟩
      ·replace c7 := Bool.eq_false_iff.mpr c7
       subst c7
       have H1 : (some false) = some r := by rw [if_neg (show ¬ (false = true) by decide)] at H; exact H
       clear H
       have H := H1
       clear H1
       obtain rfl := Option.some.inj H
       have p126 : 0 ≤ (x9_1 : Int) := of_decide_eq_true as_
       have q126 : x9_1 < (l1.length : Int) := of_decide_eq_true as_
       obtain ⟨ad126, e126, hx126_0, hx126_1, hx126_2⟩ := at_T24b HR1 HB x9_1 p126 q126
       cases e126
       replace p126 := eq_true p126
       replace q126 := eq_true q126
       go_wp2_with (first | ((with_reducible refine gate_dst (N := 6) rfl ?_); refine be_ (N := 6) (cs := #[.int .i64 0, .string (⟨#[]⟩ : ByteArray), .string (⟨#[]⟩ : ByteArray)]) (t := 24) (h := ?_); intro gb127 hg w11 hbox hb; have BK127 := Aside0.mk (hbox); have GW127 := gw_ HB hg; have GE127 := gw_ HB hg; replace HB := bs_ HB hb; clear hb hbox hg; obtain ⟨hcz12_0, hcz12_1, hcz12_2, hfz12_0, hfz12_1, hfz12_2⟩ := bc3_ BK127) | ((with_reducible refine gate_callee (f := 23) rfl ?_); refine ge_ (some 15) rfl rfl Try.func23 (by kernel_rfl) rfl #[.string a0, .agg #[.int .i64 ((rd_T24 l1 x9_1).f0), .string ((rd_T24 l1 x9_1).f1), .string ((rd_T24 l1 x9_1).f2)]] rfl (h := ?_); (with_reducible refine (change_Fits.calls k1 a0 ((rd_T24 l1 x9_1).f0) ((rd_T24 l1 x9_1).f1) ((rd_T24 l1 x9_1).f2) false _ A6.out).mono ?_); rintro e w13 ⟨rfl, hb⟩; refine ⟨_, rfl, ?_⟩; replace BK127 := Aside0.mk (blk_below (g := gb127) (o := .cells #[.int .i64 ((rd_T24 l1 x9_1).f0), .string ((rd_T24 l1 x9_1).f1), .string ((rd_T24 l1 x9_1).f2)] 24 (0, 0)) (bp_ BK127.out) hb); replace HB := bs_ HB hb; (try clear hb); (try clear hb2); (try clear hk); (try clear hi)))
       go_ret
       exact ⟨er_, hb_ HB⟩
     ·rw [if_neg c5] at H
      exact absurd H (by simp)
    ·rw [if_neg c4] at H
     exact absurd H (by simp)
   ·rw [if_neg c3] at H
    have c3b0 : decide (x9_1 < (l1.length : Int)) = false := decide_eq_false c3
    clear c3
    replace H := Option.bind_eq_some_iff.mp H
    obtain ⟨t129, A140, H⟩ := H
    replace H : (some t129) = some r := H
    have A14 := Aside0.mk A140
    clear A140
    obtain rfl := Option.some.inj H
    go_wp2_with (first | ((with_reducible refine gate_callee (f := 94) rfl ?_); refine ge_ (some 19) rfl rfl Try.func94 (by kernel_rfl) rfl #[.slice A1 l1.length c1] rfl (h := ?_); (with_reducible refine (batch_apart.calls k1 _ _ l1 t129 _ ?side1 ?side2 A14.out).mono ?_); (case side1 => exact cw_ (Kd.C_below HR1.out HB.out)); (case side2 => exact HC1.out); rintro e w' ⟨rfl, ⟨nd, rfl⟩⟩; refine ⟨_, rfl, ?_⟩))
    go_ret
    exact ⟨er_, hb_ HB⟩

end Go.Proofs.Ytkiokimpblimcaa.PBatchPlaces
