/- Of the law calamus/calamuslaw33.RecordWrites: each function as a plain Lean function, with a proof that the call comes to it; the row. By wip/tpl/own_print.py. Conditions: none but the row's own. -/
import Derived.Test.YtealbonfaebikaaORecordWritesx0
import Derived.Test.YtealbonfaebikaaORecordWritesx4
namespace Go.Proofs.Ytealbonfaebikaa.PRecordWrites
open Go.RowKit Go.Proofs.YtealbonfaebikaaW.PrintWords Go.Proofs.YtealbonfaebikaaW.PrintLast Go.Proofs.YtealbonfaebikaaW.PrintMore
attribute [local go_sem] max2_int min2_int max_two min_two max_three min_three max_four min_four   -- for this text's walks alone
set_option linter.unusedVariables false
set_option linter.unusedSimpArgs false

/-! ### calamusref02_More: function 110 -/
mutual
def calamusref02_More.j0 : Nat → Int → ByteArray → Bool → Option (Int)
 | 0, _, _, _ => none
 | k + 1, x0, x1, x12 => if x12 = true then (some 0) else (calamusref02_More.l0 k x1 (Go.bits .xor .i64 x0 4294967295) 0)
def calamusref02_More.l0 : Nat → ByteArray → Int → Int → Option (Int)
 | 0, _, _, _ => none
 | k + 1, x1, x5, x6 => if x6 < (x1.size : Int) then (if 0 ≤ x6 then ((calamusref02_step.f k (Go.bits .xor .i64 x5 (wrap64 (bt x1 x6)))).bind fun t161 => (calamusref02_More.l0 k x1 t161 (wrap64 (x6 + 1)))) else (none)) else (some (Go.bits .xor .i64 x5 4294967295))
end
def calamusref02_More.f (k : Nat) (a0 : Int) (a1 : ByteArray) : Option (Int) := if a0 < 0 then (calamusref02_More.j0 k a0 a1 true) else (calamusref02_More.j0 k a0 a1 (decide (a0 > 4294967295)))
theorem calamusref02_More.mono_l : ∀ k, (∀ y0 y1 y2, LeO (calamusref02_More.j0 k y0 y1 y2) (calamusref02_More.j0 (k + 1) y0 y1 y2)) ∧ (∀ y0 y1 y2, LeO (calamusref02_More.l0 k y0 y1 y2) (calamusref02_More.l0 (k + 1) y0 y1 y2))
 | 0 => ⟨fun _ _ _ r h => by simp [calamusref02_More.j0] at h, fun _ _ _ r h => by simp [calamusref02_More.l0] at h⟩
 | k + 1 => by
  obtain ⟨ih0, ih1⟩ := calamusref02_More.mono_l k
  refine ⟨?_, ?_⟩
  ·intro y0 y1 y2
   unfold calamusref02_More.j0
   repeat' first
   | (with_reducible exact ih0 _ _ _)
   | (with_reducible exact ih1 _ _ _)
   | (with_reducible exact calamusref02_step.mono _ _)
   | (with_reducible exact LeO.refl _)
   | (with_reducible exact LeO.none _)
   | (with_reducible refine LeO.ite ?_ ?_)
   | (with_reducible refine LeO.bind ?_ (fun _ => ?_))
   | exact ih0 _ _ _
   | exact ih1 _ _ _
   | exact calamusref02_step.mono _ _
   | exact LeO.none _
   | refine LeO.ite ?_ ?_
   | refine LeO.bind ?_ (fun _ => ?_)
  ·intro y0 y1 y2
   unfold calamusref02_More.l0
   repeat' first
   | (with_reducible exact ih0 _ _ _)
   | (with_reducible exact ih1 _ _ _)
   | (with_reducible exact calamusref02_step.mono _ _)
   | (with_reducible exact LeO.refl _)
   | (with_reducible exact LeO.none _)
   | (with_reducible refine LeO.ite ?_ ?_)
   | (with_reducible refine LeO.bind ?_ (fun _ => ?_))
   | exact ih0 _ _ _
   | exact ih1 _ _ _
   | exact calamusref02_step.mono _ _
   | exact LeO.none _
   | refine LeO.ite ?_ ?_
   | refine LeO.bind ?_ (fun _ => ?_)
theorem calamusref02_More.mono : ∀ a0 a1 k, LeO (calamusref02_More.f k a0 a1) (calamusref02_More.f (k + 1) a0 a1) := by
 intro a0 a1 k
 obtain ⟨ih0, ih1⟩ := calamusref02_More.mono_l k
 unfold calamusref02_More.f
 repeat' first
   | (with_reducible exact ih0 _ _ _)
   | (with_reducible exact ih1 _ _ _)
   | (with_reducible exact calamusref02_step.mono _ _)
   | (with_reducible exact LeO.refl _)
   | (with_reducible exact LeO.none _)
   | (with_reducible refine LeO.ite ?_ ?_)
   | (with_reducible refine LeO.bind ?_ (fun _ => ?_))
   | exact ih0 _ _ _
   | exact ih1 _ _ _
   | exact calamusref02_step.mono _ _
   | exact LeO.none _
   | refine LeO.ite ?_ ?_
   | refine LeO.bind ?_ (fun _ => ?_)
set_option maxHeartbeats 8000000 in
set_option maxRecDepth 100000 in
theorem calamusref02_More.calls (k : Nat) (a0 : Int) (a1 : ByteArray) (r : Int) (w : World) (h : calamusref02_More.f k a0 a1 = some r) :
  Calls Try.prog 110 #[.int .i64 a0, .string a1] w fun e w' => e = .returned (.int .i64 r) ∧ Drawn0 w w' := by
 have H : (if a0 < 0 then (calamusref02_More.j0 k a0 a1 true) else (calamusref02_More.j0 k a0 a1 (decide (a0 > 4294967295)))) = some r := h
 clear h
 have HC3 := Aside0.mk H
 clear H
 go_enter Try.func110, Try.ntmps110
 go_upto_region 1 with (fail)
 go_cut [12] (fun v12 wc => ∃ (kq : Nat) (x12_2 : Bool), v12 = .bool x12_2 ∧ Aside0 (calamusref02_More.j0 kq a0 a1 x12_2 = some r) ∧ Aside0 (kq ≤ k) ∧ Drawn0 w wc)
 case first =>
  have H := HC3.out
  clear HC3
  by_cases c4 : a0 < 0
  ·rw [if_pos c4] at H
   have c4b0 : decide (a0 < 0) = true := decide_eq_true c4
   clear c4
   (first | rw [c4b0] | (simp only [i64_w, i32_w]; rw [c4b0]) | skip)
   have H' := Aside0.mk H
   clear H
   go_wp2
   go_meet
   case rel => exact ⟨_, (true), es_, H', ⟨by first | omega | exact Nat.le_refl _⟩, by repeat (first | exact Drawn0.refl _ | apply Drawn0.step)⟩
  ·rw [if_neg c4] at H
   have c4b0 : decide (a0 < 0) = false := decide_eq_false c4
   clear c4
   (first | rw [c4b0] | (simp only [i64_w, i32_w]; rw [c4b0]) | skip)
   have H' := Aside0.mk H
   clear H
   go_wp2
   go_meet
   case rel => exact ⟨_, (decide (a0 > 4294967295)), es_, H', ⟨by first | omega | exact Nat.le_refl _⟩, by repeat (first | exact Drawn0.refl _ | apply Drawn0.step)⟩
 case rest =>
  clear HC3
  obtain ⟨kq, x12_2, rfl, HA, HJ2, ⟨mc2, rfl⟩⟩ := hcut
  cases kq with
  | zero => exact absurd HA.out (by simp [calamusref02_More.j0])
  | succ kj2 =>
   have H := HA.out
   clear HA
   simp only [calamusref02_More.j0] at H
   by_cases c5 : x12_2 = true
   ·subst c5
    have H1 : (some 0) = some r := by rw [if_pos rfl] at H; exact H
    clear H
    have H := H1
    clear H1
    obtain rfl := Option.some.inj H
    go_wp2
    go_ret
    exact ⟨by first | rfl | (simp; done) | (simp [*]; done), by repeat (first | exact Drawn0.refl _ | apply Drawn0.step)⟩
   ·replace c5 := Bool.eq_false_iff.mpr c5
    subst c5
    have H1 : (calamusref02_More.l0 kj2 a1 (Go.bits .xor .i64 a0 4294967295) 0) = some r := by rw [if_neg (show ¬ (false = true) by decide)] at H; exact H
    clear H
    have H := H1
    clear H1
    have H' := Aside0.mk H
    clear H
    go_wp2
    go_loopg [5, 6] kj2 (fun kq v5 v6 w' => ∃ (x5_2 : Int) (x6_2 : Int), v5 = .int .i64 x5_2 ∧ v6 = .int .i64 x6_2 ∧ Aside0 (calamusref02_More.l0 kq a1 x5_2 x6_2 = some r) ∧ Aside0 (kq ≤ kj2) ∧ Drawn0 w w')
    case atStart => exact ⟨(Go.bits .xor .i64 a0 4294967295), (0), es_, es_, H', ⟨Nat.le_refl _⟩, by repeat (first | exact Drawn0.refl _ | apply Drawn0.step)⟩
    case round =>
     clear H'
     try clear c5
     obtain ⟨x5_2, x6_2, rfl, rfl, HA, HK2, ⟨m2, rfl⟩⟩ := hrel
     cases gk with
     | zero => exact absurd HA.out (by simp [calamusref02_More.l0])
     | succ k2 =>
      have H := HA.out
      clear HA
      simp only [calamusref02_More.l0] at H
      by_cases c6 : x6_2 < (a1.size : Int)
      ·rw [if_pos c6] at H
       have c6b0 : decide (x6_2 < (a1.size : Int)) = true := decide_eq_true c6
       clear c6
       by_cases c7 : 0 ≤ x6_2
       ·rw [if_pos c7] at H
        have c7b0 : decide (0 ≤ x6_2) = true := decide_eq_true c7
        clear c7
        replace H := Option.bind_eq_some_iff.mp H
        obtain ⟨t161, A90, H⟩ := H
        replace H : (calamusref02_More.l0 k2 a1 t161 (wrap64 (x6_2 + 1))) = some r := H
        have A9 := Aside0.mk A90
        clear A90
        have H' := Aside0.mk H
        clear H
        have p8 : 0 ≤ (x6_2 : Int) := of_decide_eq_true as_
        have q8 : x6_2 < (a1.size : Int) := of_decide_eq_true as_
        have hx8 := bt_at a1 x6_2
        replace p8 := eq_true p8
        replace q8 := eq_true q8
        go_wp2_with (first | ((with_reducible refine gate_callee (f := 118) rfl ?_); refine ge_ (some 27) rfl rfl Try.func118 (by kernel_rfl) rfl #[.int .i64 (Go.bits .xor .i64 x5_2 (wrap64 (bt a1 x6_2)))] rfl (h := ?_); (with_reducible refine (calamusref02_step.calls k2 (Go.bits .xor .i64 x5_2 (wrap64 (bt a1 x6_2))) t161 _ A9.out).mono ?_); rintro e w' ⟨rfl, ⟨nd, rfl⟩⟩; refine ⟨_, rfl, ?_⟩))
        go_roundg k2
        case measure => have := HJ2.out; have := HK2.out; omega
        case rel => exact ⟨(t161), (wrap64 (x6_2 + 1)), es_, es_, H', ⟨by have := HJ2.out; have := HK2.out; omega⟩, by repeat (first | exact Drawn0.refl _ | apply Drawn0.step)⟩
       ·rw [if_neg c7] at H
        exact absurd H (by simp)
      ·rw [if_neg c6] at H
       have c6b0 : decide (x6_2 < (a1.size : Int)) = false := decide_eq_false c6
       clear c6
       obtain rfl := Option.some.inj H
       go_wp2
       go_ret
       exact ⟨by first | rfl | (simp; done) | (simp [*]; done), by repeat (first | exact Drawn0.refl _ | apply Drawn0.step)⟩

/-! ### calamusref02_Sum: function 85 -/
def calamusref02_Sum.f (k : Nat) (a0 : ByteArray) : Option (Int) := (calamusref02_More.f k 0 a0).bind fun t162 => (some t162)
theorem calamusref02_Sum.mono : ∀ a0 k, LeO (calamusref02_Sum.f k a0) (calamusref02_Sum.f (k + 1) a0) := by
 intro a0 k
 unfold calamusref02_Sum.f
 repeat' first
   | (with_reducible exact calamusref02_More.mono _ _ _)
   | (with_reducible exact LeO.refl _)
   | (with_reducible exact LeO.none _)
   | (with_reducible refine LeO.ite ?_ ?_)
   | (with_reducible refine LeO.bind ?_ (fun _ => ?_))
   | exact calamusref02_More.mono _ _ _
   | exact LeO.none _
   | refine LeO.ite ?_ ?_
   | refine LeO.bind ?_ (fun _ => ?_)
set_option maxHeartbeats 8000000 in
set_option maxRecDepth 100000 in
theorem calamusref02_Sum.calls (k : Nat) (a0 : ByteArray) (r : Int) (w : World) (h : calamusref02_Sum.f k a0 = some r) :
  Calls Try.prog 85 #[.string a0] w fun e w' => e = .returned (.int .i64 r) ∧ Drawn0 w w' := by
 have H : ((calamusref02_More.f k 0 a0).bind fun t162 => (some t162)) = some r := h
 clear h
 replace H := Option.bind_eq_some_iff.mp H
 obtain ⟨t162, A20, H⟩ := H
 replace H : (some t162) = some r := H
 have A2 := Aside0.mk A20
 clear A20
 obtain rfl := Option.some.inj H
 go_enter Try.func85, Try.ntmps85
 go_wp2_with (first | ((with_reducible refine gate_callee (f := 110) rfl ?_); refine ge_ (some 4) rfl rfl Try.func110 (by kernel_rfl) rfl #[.int .i64 0, .string a0] rfl (h := ?_); (with_reducible refine (calamusref02_More.calls k 0 a0 t162 _ A2.out).mono ?_); rintro e w' ⟨rfl, ⟨nd, rfl⟩⟩; refine ⟨_, rfl, ?_⟩))
 go_ret
 exact ⟨by first | rfl | (simp; done) | (simp [*]; done), by repeat (first | exact Drawn0.refl _ | apply Drawn0.step)⟩

/-! ### calamusref02_Seal: function 58 -/
def calamusref02_Seal.f (k : Nat) (a0 : ByteArray) : Option (ByteArray) := (calamusref02_Sum.f k a0).bind fun t163 => ((calamusref02_Bytes.f t163).bind fun t164 => (if a0.size + t164.size ≤ 9223372036854775807 then (some (a0 ++ t164)) else (none)))
theorem calamusref02_Seal.mono : ∀ a0 k, LeO (calamusref02_Seal.f k a0) (calamusref02_Seal.f (k + 1) a0) := by
 intro a0 k
 unfold calamusref02_Seal.f
 repeat' first
   | (with_reducible exact calamusref02_Sum.mono _ _)
   | (with_reducible exact LeO.refl _)
   | (with_reducible exact LeO.none _)
   | (with_reducible refine LeO.ite ?_ ?_)
   | (with_reducible refine LeO.bind ?_ (fun _ => ?_))
   | exact calamusref02_Sum.mono _ _
   | exact LeO.none _
   | refine LeO.ite ?_ ?_
   | refine LeO.bind ?_ (fun _ => ?_)
set_option maxHeartbeats 8000000 in
set_option maxRecDepth 100000 in
theorem calamusref02_Seal.calls (k : Nat) (a0 : ByteArray) (r : ByteArray) (w : World) (h : calamusref02_Seal.f k a0 = some r) :
  Calls Try.prog 58 #[.string a0] w fun e w' => e = .returned (.string r) ∧ Below w.heap.size w w' := by
 have HB := Aside0.mk (Below.refl w.heap.size w)
 have H : ((calamusref02_Sum.f k a0).bind fun t163 => ((calamusref02_Bytes.f t163).bind fun t164 => (if a0.size + t164.size ≤ 9223372036854775807 then (some (a0 ++ t164)) else (none)))) = some r := h
 clear h
 replace H := Option.bind_eq_some_iff.mp H
 obtain ⟨t163, A20, H⟩ := H
 replace H : ((calamusref02_Bytes.f t163).bind fun t164 => (if a0.size + t164.size ≤ 9223372036854775807 then (some (a0 ++ t164)) else (none))) = some r := H
 have A2 := Aside0.mk A20
 clear A20
 replace H := Option.bind_eq_some_iff.mp H
 obtain ⟨t164, A30, H⟩ := H
 replace H : (if a0.size + t164.size ≤ 9223372036854775807 then (some (a0 ++ t164)) else (none)) = some r := H
 have A3 := Aside0.mk A30
 clear A30
 by_cases c4 : a0.size + t164.size ≤ 9223372036854775807
 ·rw [if_pos c4] at H
  have c4b0 := eq_true c4
  try (have c4b0x := c4b0; simp only [ByteArray.size_extract, Nat.min_self] at c4b0x)
  have c4b1 : decide (a0.size + t164.size ≤ 9223372036854775807) = true := decide_eq_true c4
  try have c4b2 : (9223372036854775807 < a0.size + t164.size) = False := eq_false (Nat.not_lt.2 c4)
  obtain rfl := Option.some.inj H
  go_enter Try.func58, Try.ntmps58
  go_wp2_with (first | ((with_reducible refine gate_callee (f := 85) rfl ?_); refine ge_ (some 5) rfl rfl Try.func85 (by kernel_rfl) rfl #[.string a0] rfl (h := ?_); (with_reducible refine (calamusref02_Sum.calls k a0 t163 _ A2.out).mono ?_); rintro e w' ⟨rfl, ⟨nd, rfl⟩⟩; refine ⟨_, rfl, ?_⟩) | ((with_reducible refine gate_callee (f := 84) rfl ?_); refine ge_ (some 6) rfl rfl Try.func84 (by kernel_rfl) rfl #[.int .i64 t163] rfl (h := ?_); (with_reducible refine (calamusref02_Bytes.calls t163 t164 _ A3.out).mono ?_); rintro e w5 ⟨rfl, hb⟩; refine ⟨_, rfl, ?_⟩; replace HB := bs_ HB hb; (try clear hb); (try clear hb2); (try clear hk); (try clear hi)))
  go_ret
  exact ⟨er_, hb_ HB⟩
 ·rw [if_neg c4] at H
  exact absurd H (by simp)

end Go.Proofs.Ytealbonfaebikaa.PRecordWrites
