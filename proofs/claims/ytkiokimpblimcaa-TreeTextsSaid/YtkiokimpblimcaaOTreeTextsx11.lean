/- Of the law calamus/calamuslaw11.TreeTexts: each function as a plain Lean function, with a proof that the call comes to it; the row. By wip/tpl/own_print.py. Conditions: none but the row's own. -/
import Derived.Test.YtkiokimpblimcaaOTreeTextsx0
import Derived.Test.YtkiokimpblimcaaOTreeTextsx10
namespace Go.Proofs.Ytkiokimpblimcaa.PTreeTexts
open Go.RowKit Go.Proofs.YtkiokimpblimcaaW.PrintWords Go.Proofs.YtkiokimpblimcaaW.PrintLast Go.Proofs.YtkiokimpblimcaaW.PrintMore
attribute [local go_sem] max2_int min2_int max_two min_two max_three min_three max_four min_four   -- for this text's walks alone
set_option linter.unusedVariables false
set_option linter.unusedSimpArgs false

/-! ### calamusref03_find: function 92 -/
def calamusref03_find.l0 : Nat → List Int → Int → Int → Option (Int)
 | 0, _, _, _ => none
 | k + 1, x0, x1, x5 => if x5 < (x0.length : Int) then (if 0 ≤ x5 then (if (rd x0 x5) = x1 then (some x5) else (calamusref03_find.l0 k x0 x1 (wrap64 (x5 + 1)))) else (none)) else (some (-1))
def calamusref03_find.f (k : Nat) (l0 : List Int) (a1 : Int) : Option (Int) := calamusref03_find.l0 k l0 a1 0
theorem calamusref03_find.mono_l : ∀ k, (∀ y0 y1 y2, LeO (calamusref03_find.l0 k y0 y1 y2) (calamusref03_find.l0 (k + 1) y0 y1 y2))
 | 0 => fun _ _ _ r h => by simp [calamusref03_find.l0] at h
 | k + 1 => by
  have ih0 := calamusref03_find.mono_l k
  ·intro y0 y1 y2
   unfold calamusref03_find.l0
   repeat' first
   | (with_reducible exact ih0 _ _ _)
   | (with_reducible exact LeO.refl _)
   | (with_reducible exact LeO.none _)
   | (with_reducible refine LeO.ite ?_ ?_)
   | (with_reducible refine LeO.bind ?_ (fun _ => ?_))
   | exact ih0 _ _ _
   | exact LeO.none _
   | refine LeO.ite ?_ ?_
   | refine LeO.bind ?_ (fun _ => ?_)
theorem calamusref03_find.mono : ∀ a0 a1 k, LeO (calamusref03_find.f k a0 a1) (calamusref03_find.f (k + 1) a0 a1) := by
 intro a0 a1 k
 have ih0 := calamusref03_find.mono_l k
 unfold calamusref03_find.f
 repeat' first
   | (with_reducible exact ih0 _ _ _)
   | (with_reducible exact LeO.refl _)
   | (with_reducible exact LeO.none _)
   | (with_reducible refine LeO.ite ?_ ?_)
   | (with_reducible refine LeO.bind ?_ (fun _ => ?_))
   | exact ih0 _ _ _
   | exact LeO.none _
   | refine LeO.ite ?_ ?_
   | refine LeO.bind ?_ (fun _ => ?_)
set_option maxHeartbeats 8000000 in
set_option maxRecDepth 100000 in
theorem calamusref03_find.calls (k : Nat) (A0 : Option Addr) (c0 : Nat) (l0 : List Int) (a1 : Int) (r : Int) (w : World) (hr0 : Kd.C (Kd.int .i64) w A0 l0.length l0) (hc0 : l0.length ≤ c0) (h : calamusref03_find.f k l0 a1 = some r) :
  Calls Try.prog 92 #[.slice A0 l0.length c0, .int .i64 a1] w fun e w' => e = .returned (.int .i64 r) ∧ Drawn0 w w' := by
 have HR0 := Aside0.mk hr0
 have HC0 := Aside0.mk hc0
 clear hr0 hc0
 have H : (calamusref03_find.l0 k l0 a1 0) = some r := h
 clear h
 have H' := Aside0.mk H
 clear H
 go_enter Try.func92, Try.ntmps92
 go_wp2
 go_loopg [5] k (fun kq v5 w' => ∃ (x5_1 : Int), v5 = .int .i64 x5_1 ∧ Aside0 (calamusref03_find.l0 kq l0 a1 x5_1 = some r) ∧ Aside0 (kq ≤ k) ∧ Drawn0 w w')
 case atStart => exact ⟨(0), es_, H', ⟨Nat.le_refl _⟩, by repeat (first | exact Drawn0.refl _ | apply Drawn0.step)⟩
 case round =>
  clear H'
  obtain ⟨x5_1, rfl, HA, HK1, ⟨m1, rfl⟩⟩ := hrel
  cases gk with
  | zero => exact absurd HA.out (by simp [calamusref03_find.l0])
  | succ k1 =>
   have H := HA.out
   clear HA
   simp only [calamusref03_find.l0] at H
   by_cases c3 : x5_1 < (l0.length : Int)
   ·rw [if_pos c3] at H
    have c3b0 : decide (x5_1 < (l0.length : Int)) = true := decide_eq_true c3
    clear c3
    by_cases c4 : 0 ≤ x5_1
    ·rw [if_pos c4] at H
     have c4b0 : decide (0 ≤ x5_1) = true := decide_eq_true c4
     clear c4
     by_cases c5 : (rd l0 x5_1) = a1
     ·rw [if_pos c5] at H
      have c5b0 : ((rd l0 x5_1) == a1) = true := beq_iff_eq.mpr c5
      have c5b1 : ((rd l0 x5_1) != a1) = false := bne_eq_false_iff_eq.mpr c5
      clear c5
      obtain rfl := Option.some.inj H
      have p317 : 0 ≤ (x5_1 : Int) := of_decide_eq_true as_
      have q317 : x5_1 < (l0.length : Int) := of_decide_eq_true as_
      obtain ⟨ad317, e317, hx317_0⟩ := Kd.at_int HR0.out x5_1 p317 q317
      cases e317
      replace p317 := eq_true p317
      replace q317 := eq_true q317
      go_wp2
      go_ret
      exact ⟨by first | rfl | (simp; done) | (simp [*]; done), by repeat (first | exact Drawn0.refl _ | apply Drawn0.step)⟩
     ·rw [if_neg c5] at H
      have c5b0 : ((rd l0 x5_1) == a1) = false := beq_eq_false_iff_ne.mpr c5
      have c5b1 : ((rd l0 x5_1) != a1) = true := bne_iff_ne.mpr c5
      have H' := Aside0.mk H
      clear H
      have p317 : 0 ≤ (x5_1 : Int) := of_decide_eq_true as_
      have q317 : x5_1 < (l0.length : Int) := of_decide_eq_true as_
      obtain ⟨ad317, e317, hx317_0⟩ := Kd.at_int HR0.out x5_1 p317 q317
      cases e317
      replace p317 := eq_true p317
      replace q317 := eq_true q317
      go_wp2
      go_roundg k1
      case measure => have := HK1.out; omega
      case rel => exact ⟨(wrap64 (x5_1 + 1)), es_, H', ⟨by have := HK1.out; omega⟩, by repeat (first | exact Drawn0.refl _ | apply Drawn0.step)⟩
    ·rw [if_neg c4] at H
     exact absurd H (by simp)
   ·rw [if_neg c3] at H
    have c3b0 : decide (x5_1 < (l0.length : Int)) = false := decide_eq_false c3
    clear c3
    obtain rfl := Option.some.inj H
    go_wp2
    go_ret
    exact ⟨by first | rfl | (simp; done) | (simp [*]; done), by repeat (first | exact Drawn0.refl _ | apply Drawn0.step)⟩

/-! ### calamusref03_Place: function 67 -/
def calamusref03_Place.f (k : Nat) (a0 : ByteArray) (a1 : Int) : Option (Bool) := (calamusref03_Split.f k a0).bind fun t318 => ((calamusref03_find.f k t318 a1).bind fun t321 => (some (decide (t321 ≥ 0))))
theorem calamusref03_Place.mono : ∀ a0 a1 k, LeO (calamusref03_Place.f k a0 a1) (calamusref03_Place.f (k + 1) a0 a1) := by
 intro a0 a1 k
 unfold calamusref03_Place.f
 repeat' first
   | (with_reducible exact calamusref03_Split.mono _ _)
   | (with_reducible exact calamusref03_find.mono _ _ _)
   | (with_reducible exact LeO.refl _)
   | (with_reducible exact LeO.none _)
   | (with_reducible refine LeO.ite ?_ ?_)
   | (with_reducible refine LeO.bind ?_ (fun _ => ?_))
   | exact calamusref03_Split.mono _ _
   | exact calamusref03_find.mono _ _ _
   | exact LeO.none _
   | refine LeO.ite ?_ ?_
   | refine LeO.bind ?_ (fun _ => ?_)
set_option maxHeartbeats 8000000 in
set_option maxRecDepth 100000 in
theorem calamusref03_Place.calls (k : Nat) (a0 : ByteArray) (a1 : Int) (r : Bool) (w : World) (h : calamusref03_Place.f k a0 a1 = some r) :
  Calls Try.prog 67 #[.string a0, .int .i64 a1] w fun e w' => e = .returned (.bool r) ∧ Below w.heap.size w w' := by
 have HB := Aside0.mk (Below.refl w.heap.size w)
 have H : ((calamusref03_Split.f k a0).bind fun t318 => ((calamusref03_find.f k t318 a1).bind fun t321 => (some (decide (t321 ≥ 0))))) = some r := h
 clear h
 replace H := Option.bind_eq_some_iff.mp H
 obtain ⟨t318, A30, H⟩ := H
 replace H : ((calamusref03_find.f k t318 a1).bind fun t321 => (some (decide (t321 ≥ 0)))) = some r := H
 have A3 := Aside0.mk A30
 clear A30
 replace H := Option.bind_eq_some_iff.mp H
 obtain ⟨t321, A40, H⟩ := H
 replace H : (some (decide (t321 ≥ 0))) = some r := H
 have A4 := Aside0.mk A40
 clear A40
 obtain rfl := Option.some.inj H
 go_enter Try.func67, Try.ntmps67
 go_wp2_with (first | ((with_reducible refine gate_callee (f := 90) rfl ?_); refine ge_ (some 6) rfl rfl Try.func90 (by kernel_rfl) rfl #[.string a0] rfl (h := ?_); (with_reducible refine (calamusref03_Split.calls k a0 t318 _ A3.out).mono ?_); rintro e w5 ⟨v319, rfl, ho0, hb⟩; refine ⟨_, rfl, ?_⟩; have HO320 := Aside0.mk (Kd.R_lower ho0 (below_size (hb_ HB))); replace HB := bs_ HB hb; (try clear hb); (try clear hb2); (try clear hk); (try clear hi); (try clear ho0); obtain ⟨Ao6, co6, eo6⟩ := Kd.R_slice HO320.out; subst eo6) | ((with_reducible refine gate_callee (f := 92) rfl ?_); refine ge_ (some 8) rfl rfl Try.func92 (by kernel_rfl) rfl #[.slice Ao6 t318.length co6, .int .i64 a1] rfl (h := ?_); (with_reducible refine (calamusref03_find.calls k _ _ t318 a1 t321 _ ?side1 ?side2 A4.out).mono ?_); (case side1 => repeat (first | exact (Kd.R_reads' HO320.out).2.2 | (with_reducible refine Kd.C_alloc ?_ _) | (with_reducible refine Kd.C_drewN ?_ _) | (with_reducible refine Kd.C_drew ?_))); (case side2 => exact (Kd.R_reads' HO320.out).2.1); rintro e w' ⟨rfl, ⟨nd, rfl⟩⟩; refine ⟨_, rfl, ?_⟩))
 go_ret
 exact ⟨er_, hb_ HB⟩

/-! ### calamusref08_Fits: function 24 -/
def calamusref08_Fits.f (k : Nat) (a0 : ByteArray) (a1_0 : Int) (a1_1 : ByteArray) (a1_2 : ByteArray) : Option (Bool) := (calamusref03_Valid.f k a0).bind fun t323 => (if t323 = true then ((calamusref03_Valid.f k a1_1).bind fun t324 => (if t324 = true then ((calamusref03_Valid.f k a1_2).bind fun t325 => (if t325 = true then ((calamusref03_Place.f k a0 a1_0).bind fun t326 => (if t326 = true then (if (wrap64 ((a0.size : Int) - a1_0)) ≥ (a1_1.size : Int) then (if 0 ≤ a1_0 then (if a1_0 ≤ (wrap64 (a1_0 + (a1_1.size : Int))) then (if (wrap64 (a1_0 + (a1_1.size : Int))) ≤ (a0.size : Int) then (some ((a0.extract (a1_0 : Int).toNat ((wrap64 (a1_0 + (a1_1.size : Int))) : Int).toNat).toList == a1_1.toList)) else (none)) else (none)) else (none)) else (some false)) else (some false))) else (some false))) else (some false))) else (some false))
theorem calamusref08_Fits.mono : ∀ a0 a1 a2 a3 k, LeO (calamusref08_Fits.f k a0 a1 a2 a3) (calamusref08_Fits.f (k + 1) a0 a1 a2 a3) := by
 intro a0 a1 a2 a3 k
 unfold calamusref08_Fits.f
 repeat' first
   | (with_reducible exact calamusref03_Place.mono _ _ _)
   | (with_reducible exact calamusref03_Valid.mono _ _)
   | (with_reducible exact LeO.refl _)
   | (with_reducible exact LeO.none _)
   | (with_reducible refine LeO.ite ?_ ?_)
   | (with_reducible refine LeO.bind ?_ (fun _ => ?_))
   | exact calamusref03_Place.mono _ _ _
   | exact calamusref03_Valid.mono _ _
   | exact LeO.none _
   | refine LeO.ite ?_ ?_
   | refine LeO.bind ?_ (fun _ => ?_)
set_option maxHeartbeats 8000000 in
set_option maxRecDepth 100000 in
theorem calamusref08_Fits.calls (k : Nat) (a0 : ByteArray) (a1_0 : Int) (a1_1 : ByteArray) (a1_2 : ByteArray) (r : Bool) (w : World) (h : calamusref08_Fits.f k a0 a1_0 a1_1 a1_2 = some r) :
  Calls Try.prog 24 #[.string a0, .agg #[.int .i64 a1_0, .string a1_1, .string a1_2]] w fun e w' => e = .returned (.bool r) ∧ Below w.heap.size w w' := by
 have hu24 := Try.underlying24
 have HB := Aside0.mk (Below.refl w.heap.size w)
 have H : ((calamusref03_Valid.f k a0).bind fun t323 => (if t323 = true then ((calamusref03_Valid.f k a1_1).bind fun t324 => (if t324 = true then ((calamusref03_Valid.f k a1_2).bind fun t325 => (if t325 = true then ((calamusref03_Place.f k a0 a1_0).bind fun t326 => (if t326 = true then (if (wrap64 ((a0.size : Int) - a1_0)) ≥ (a1_1.size : Int) then (if 0 ≤ a1_0 then (if a1_0 ≤ (wrap64 (a1_0 + (a1_1.size : Int))) then (if (wrap64 (a1_0 + (a1_1.size : Int))) ≤ (a0.size : Int) then (some ((a0.extract (a1_0 : Int).toNat ((wrap64 (a1_0 + (a1_1.size : Int))) : Int).toNat).toList == a1_1.toList)) else (none)) else (none)) else (none)) else (some false)) else (some false))) else (some false))) else (some false))) else (some false))) = some r := h
 clear h
 replace H := Option.bind_eq_some_iff.mp H
 obtain ⟨t323, A30, H⟩ := H
 replace H : (if t323 = true then ((calamusref03_Valid.f k a1_1).bind fun t324 => (if t324 = true then ((calamusref03_Valid.f k a1_2).bind fun t325 => (if t325 = true then ((calamusref03_Place.f k a0 a1_0).bind fun t326 => (if t326 = true then (if (wrap64 ((a0.size : Int) - a1_0)) ≥ (a1_1.size : Int) then (if 0 ≤ a1_0 then (if a1_0 ≤ (wrap64 (a1_0 + (a1_1.size : Int))) then (if (wrap64 (a1_0 + (a1_1.size : Int))) ≤ (a0.size : Int) then (some ((a0.extract (a1_0 : Int).toNat ((wrap64 (a1_0 + (a1_1.size : Int))) : Int).toNat).toList == a1_1.toList)) else (none)) else (none)) else (none)) else (some false)) else (some false))) else (some false))) else (some false))) else (some false)) = some r := H
 have A3 := Aside0.mk A30
 clear A30
 by_cases c4 : t323 = true
 ·subst c4
  have H1 : ((calamusref03_Valid.f k a1_1).bind fun t324 => (if t324 = true then ((calamusref03_Valid.f k a1_2).bind fun t325 => (if t325 = true then ((calamusref03_Place.f k a0 a1_0).bind fun t326 => (if t326 = true then (if (wrap64 ((a0.size : Int) - a1_0)) ≥ (a1_1.size : Int) then (if 0 ≤ a1_0 then (if a1_0 ≤ (wrap64 (a1_0 + (a1_1.size : Int))) then (if (wrap64 (a1_0 + (a1_1.size : Int))) ≤ (a0.size : Int) then (some ((a0.extract (a1_0 : Int).toNat ((wrap64 (a1_0 + (a1_1.size : Int))) : Int).toNat).toList == a1_1.toList)) else (none)) else (none)) else (none)) else (some false)) else (some false))) else (some false))) else (some false))) = some r := by rw [if_pos rfl] at H; exact H
  clear H
  have H := H1
  clear H1
  replace H := Option.bind_eq_some_iff.mp H
  obtain ⟨t324, A50, H⟩ := H
  replace H : (if t324 = true then ((calamusref03_Valid.f k a1_2).bind fun t325 => (if t325 = true then ((calamusref03_Place.f k a0 a1_0).bind fun t326 => (if t326 = true then (if (wrap64 ((a0.size : Int) - a1_0)) ≥ (a1_1.size : Int) then (if 0 ≤ a1_0 then (if a1_0 ≤ (wrap64 (a1_0 + (a1_1.size : Int))) then (if (wrap64 (a1_0 + (a1_1.size : Int))) ≤ (a0.size : Int) then (some ((a0.extract (a1_0 : Int).toNat ((wrap64 (a1_0 + (a1_1.size : Int))) : Int).toNat).toList == a1_1.toList)) else (none)) else (none)) else (none)) else (some false)) else (some false))) else (some false))) else (some false)) = some r := H
  have A5 := Aside0.mk A50
  clear A50
  by_cases c6 : t324 = true
  ·subst c6
   have H1 : ((calamusref03_Valid.f k a1_2).bind fun t325 => (if t325 = true then ((calamusref03_Place.f k a0 a1_0).bind fun t326 => (if t326 = true then (if (wrap64 ((a0.size : Int) - a1_0)) ≥ (a1_1.size : Int) then (if 0 ≤ a1_0 then (if a1_0 ≤ (wrap64 (a1_0 + (a1_1.size : Int))) then (if (wrap64 (a1_0 + (a1_1.size : Int))) ≤ (a0.size : Int) then (some ((a0.extract (a1_0 : Int).toNat ((wrap64 (a1_0 + (a1_1.size : Int))) : Int).toNat).toList == a1_1.toList)) else (none)) else (none)) else (none)) else (some false)) else (some false))) else (some false))) = some r := by rw [if_pos rfl] at H; exact H
   clear H
   have H := H1
   clear H1
   replace H := Option.bind_eq_some_iff.mp H
   obtain ⟨t325, A70, H⟩ := H
   replace H : (if t325 = true then ((calamusref03_Place.f k a0 a1_0).bind fun t326 => (if t326 = true then (if (wrap64 ((a0.size : Int) - a1_0)) ≥ (a1_1.size : Int) then (if 0 ≤ a1_0 then (if a1_0 ≤ (wrap64 (a1_0 + (a1_1.size : Int))) then (if (wrap64 (a1_0 + (a1_1.size : Int))) ≤ (a0.size : Int) then (some ((a0.extract (a1_0 : Int).toNat ((wrap64 (a1_0 + (a1_1.size : Int))) : Int).toNat).toList == a1_1.toList)) else (none)) else (none)) else (none)) else (some false)) else (some false))) else (some false)) = some r := H
   have A7 := Aside0.mk A70
   clear A70
   by_cases c8 : t325 = true
   ·subst c8
    have H1 : ((calamusref03_Place.f k a0 a1_0).bind fun t326 => (if t326 = true then (if (wrap64 ((a0.size : Int) - a1_0)) ≥ (a1_1.size : Int) then (if 0 ≤ a1_0 then (if a1_0 ≤ (wrap64 (a1_0 + (a1_1.size : Int))) then (if (wrap64 (a1_0 + (a1_1.size : Int))) ≤ (a0.size : Int) then (some ((a0.extract (a1_0 : Int).toNat ((wrap64 (a1_0 + (a1_1.size : Int))) : Int).toNat).toList == a1_1.toList)) else (none)) else (none)) else (none)) else (some false)) else (some false))) = some r := by rw [if_pos rfl] at H; exact H
    clear H
    have H := H1
    clear H1
    replace H := Option.bind_eq_some_iff.mp H
    obtain ⟨t326, A90, H⟩ := H
    replace H : (if t326 = true then (if (wrap64 ((a0.size : Int) - a1_0)) ≥ (a1_1.size : Int) then (if 0 ≤ a1_0 then (if a1_0 ≤ (wrap64 (a1_0 + (a1_1.size : Int))) then (if (wrap64 (a1_0 + (a1_1.size : Int))) ≤ (a0.size : Int) then (some ((a0.extract (a1_0 : Int).toNat ((wrap64 (a1_0 + (a1_1.size : Int))) : Int).toNat).toList == a1_1.toList)) else (none)) else (none)) else (none)) else (some false)) else (some false)) = some r := H
    have A9 := Aside0.mk A90
    clear A90
    by_cases c10 : t326 = true
    ·subst c10
     have H1 : (if (wrap64 ((a0.size : Int) - a1_0)) ≥ (a1_1.size : Int) then (if 0 ≤ a1_0 then (if a1_0 ≤ (wrap64 (a1_0 + (a1_1.size : Int))) then (if (wrap64 (a1_0 + (a1_1.size : Int))) ≤ (a0.size : Int) then (some ((a0.extract (a1_0 : Int).toNat ((wrap64 (a1_0 + (a1_1.size : Int))) : Int).toNat).toList == a1_1.toList)) else (none)) else (none)) else (none)) else (some false)) = some r := by rw [if_pos rfl] at H; exact H
     clear H
     have H := H1
     clear H1
     by_cases c11 : (wrap64 ((a0.size : Int) - a1_0)) ≥ (a1_1.size : Int)
     ·rw [if_pos c11] at H
      have c11b0 : decide ((a1_1.size : Int) ≤ (wrap64 ((a0.size : Int) - a1_0))) = true := decide_eq_true c11
      clear c11
      by_cases c12 : 0 ≤ a1_0
      ·rw [if_pos c12] at H
       have c12b0 := eq_true c12
       try (have c12b0x := c12b0; simp only [ByteArray.size_extract, Nat.min_self] at c12b0x)
       have c12b1 : decide (0 ≤ a1_0) = true := decide_eq_true c12
       clear c12
       by_cases c13 : a1_0 ≤ (wrap64 (a1_0 + (a1_1.size : Int)))
       ·rw [if_pos c13] at H
        have c13b0 := eq_true c13
        try (have c13b0x := c13b0; simp only [ByteArray.size_extract, Nat.min_self] at c13b0x)
        have c13b1 : decide (a1_0 ≤ (wrap64 (a1_0 + (a1_1.size : Int)))) = true := decide_eq_true c13
        by_cases c14 : (wrap64 (a1_0 + (a1_1.size : Int))) ≤ (a0.size : Int)
        ·rw [if_pos c14] at H
         have c14b0 := eq_true c14
         try (have c14b0x := c14b0; simp only [ByteArray.size_extract, Nat.min_self] at c14b0x)
         have c14b1 : decide ((wrap64 (a1_0 + (a1_1.size : Int))) ≤ (a0.size : Int)) = true := decide_eq_true c14
         obtain rfl := Option.some.inj H
         go_enter Try.func24, Try.ntmps24
         go_wp2_with (first | ((with_reducible refine gate_dst (N := 3) rfl ?_); (try (refine gate_guard (by rfl) ?_; dsimp only)); refine be_ (N := 3) (cs := #[.int .i64 a1_0, .string a1_1, .string a1_2]) (t := 24) (h := ?_); intro gb322 hg w15 hbox hb; have BK322 := Aside0.mk (hbox); have GW322 := gw_ HB hg; have GE322 := gw_ HB hg; replace HB := bs_ HB hb; clear hb hbox hg) | (go_at_call 60; (with_reducible refine (calamusref03_Valid.calls k a0 true _ A3.out).mono ?_); rintro e w16 ⟨rfl, hb⟩; replace BK322 := bb_ BK322 hb; replace HB := bs_ HB hb; (try clear hb); (try clear hb2); (try clear hk); (try clear hi); obtain ⟨hcz17_0, hcz17_1, hcz17_2, hfz17_0, hfz17_1, hfz17_2⟩ := bc3_ BK322) | (go_at_call 60; (with_reducible refine (calamusref03_Valid.calls k a1_1 true _ A5.out).mono ?_); rintro e w18 ⟨rfl, hb⟩; replace BK322 := bb_ BK322 hb; replace HB := bs_ HB hb; (try clear hb); (try clear hb2); (try clear hk); (try clear hi); obtain ⟨hcz19_0, hcz19_1, hcz19_2, hfz19_0, hfz19_1, hfz19_2⟩ := bc3_ BK322) | (go_at_call 60; (with_reducible refine (calamusref03_Valid.calls k a1_2 true _ A7.out).mono ?_); rintro e w20 ⟨rfl, hb⟩; replace BK322 := bb_ BK322 hb; replace HB := bs_ HB hb; (try clear hb); (try clear hb2); (try clear hk); (try clear hi); obtain ⟨hcz21_0, hcz21_1, hcz21_2, hfz21_0, hfz21_1, hfz21_2⟩ := bc3_ BK322) | (go_at_call 67; (with_reducible refine (calamusref03_Place.calls k a0 a1_0 true _ A9.out).mono ?_); rintro e w22 ⟨rfl, hb⟩; replace BK322 := bb_ BK322 hb; replace HB := bs_ HB hb; (try clear hb); (try clear hb2); (try clear hk); (try clear hi); obtain ⟨hcz23_0, hcz23_1, hcz23_2, hfz23_0, hfz23_1, hfz23_2⟩ := bc3_ BK322))
         repeat (go_quiet (first | ((with_reducible refine gate_dst (N := 3) rfl ?_); (try (refine gate_guard (by rfl) ?_; dsimp only)); refine be_ (N := 3) (cs := #[.int .i64 a1_0, .string a1_1, .string a1_2]) (t := 24) (h := ?_); intro gb322 hg w15 hbox hb; have BK322 := Aside0.mk (hbox); have GW322 := gw_ HB hg; have GE322 := gw_ HB hg; replace HB := bs_ HB hb; clear hb hbox hg) | (go_at_call 60; (with_reducible refine (calamusref03_Valid.calls k a0 true _ A3.out).mono ?_); rintro e w16 ⟨rfl, hb⟩; replace BK322 := bb_ BK322 hb; replace HB := bs_ HB hb; (try clear hb); (try clear hb2); (try clear hk); (try clear hi); obtain ⟨hcz17_0, hcz17_1, hcz17_2, hfz17_0, hfz17_1, hfz17_2⟩ := bc3_ BK322) | (go_at_call 60; (with_reducible refine (calamusref03_Valid.calls k a1_1 true _ A5.out).mono ?_); rintro e w18 ⟨rfl, hb⟩; replace BK322 := bb_ BK322 hb; replace HB := bs_ HB hb; (try clear hb); (try clear hb2); (try clear hk); (try clear hi); obtain ⟨hcz19_0, hcz19_1, hcz19_2, hfz19_0, hfz19_1, hfz19_2⟩ := bc3_ BK322) | (go_at_call 60; (with_reducible refine (calamusref03_Valid.calls k a1_2 true _ A7.out).mono ?_); rintro e w20 ⟨rfl, hb⟩; replace BK322 := bb_ BK322 hb; replace HB := bs_ HB hb; (try clear hb); (try clear hb2); (try clear hk); (try clear hi); obtain ⟨hcz21_0, hcz21_1, hcz21_2, hfz21_0, hfz21_1, hfz21_2⟩ := bc3_ BK322) | (go_at_call 67; (with_reducible refine (calamusref03_Place.calls k a0 a1_0 true _ A9.out).mono ?_); rintro e w22 ⟨rfl, hb⟩; replace BK322 := bb_ BK322 hb; replace HB := bs_ HB hb; (try clear hb); (try clear hb2); (try clear hk); (try clear hi); obtain ⟨hcz23_0, hcz23_1, hcz23_2, hfz23_0, hfz23_1, hfz23_2⟩ := bc3_ BK322)); try go_wp2_with (first | ((with_reducible refine gate_dst (N := 3) rfl ?_); (try (refine gate_guard (by rfl) ?_; dsimp only)); refine be_ (N := 3) (cs := #[.int .i64 a1_0, .string a1_1, .string a1_2]) (t := 24) (h := ?_); intro gb322 hg w15 hbox hb; have BK322 := Aside0.mk (hbox); have GW322 := gw_ HB hg; have GE322 := gw_ HB hg; replace HB := bs_ HB hb; clear hb hbox hg) | (go_at_call 60; (with_reducible refine (calamusref03_Valid.calls k a0 true _ A3.out).mono ?_); rintro e w16 ⟨rfl, hb⟩; replace BK322 := bb_ BK322 hb; replace HB := bs_ HB hb; (try clear hb); (try clear hb2); (try clear hk); (try clear hi); obtain ⟨hcz17_0, hcz17_1, hcz17_2, hfz17_0, hfz17_1, hfz17_2⟩ := bc3_ BK322) | (go_at_call 60; (with_reducible refine (calamusref03_Valid.calls k a1_1 true _ A5.out).mono ?_); rintro e w18 ⟨rfl, hb⟩; replace BK322 := bb_ BK322 hb; replace HB := bs_ HB hb; (try clear hb); (try clear hb2); (try clear hk); (try clear hi); obtain ⟨hcz19_0, hcz19_1, hcz19_2, hfz19_0, hfz19_1, hfz19_2⟩ := bc3_ BK322) | (go_at_call 60; (with_reducible refine (calamusref03_Valid.calls k a1_2 true _ A7.out).mono ?_); rintro e w20 ⟨rfl, hb⟩; replace BK322 := bb_ BK322 hb; replace HB := bs_ HB hb; (try clear hb); (try clear hb2); (try clear hk); (try clear hi); obtain ⟨hcz21_0, hcz21_1, hcz21_2, hfz21_0, hfz21_1, hfz21_2⟩ := bc3_ BK322) | (go_at_call 67; (with_reducible refine (calamusref03_Place.calls k a0 a1_0 true _ A9.out).mono ?_); rintro e w22 ⟨rfl, hb⟩; replace BK322 := bb_ BK322 hb; replace HB := bs_ HB hb; (try clear hb); (try clear hb2); (try clear hk); (try clear hi); obtain ⟨hcz23_0, hcz23_1, hcz23_2, hfz23_0, hfz23_1, hfz23_2⟩ := bc3_ BK322)))
         go_ret
         exact ⟨er_, hb_ HB⟩
        ·rw [if_neg c14] at H
         exact absurd H (by simp)
       ·rw [if_neg c13] at H
        exact absurd H (by simp)
      ·rw [if_neg c12] at H
       exact absurd H (by simp)
     ·rw [if_neg c11] at H
      have c11b0 : decide ((a1_1.size : Int) ≤ (wrap64 ((a0.size : Int) - a1_0))) = false := decide_eq_false c11
      clear c11
      obtain rfl := Option.some.inj H
      go_enter Try.func24, Try.ntmps24
      go_wp2_with (first | ((with_reducible refine gate_dst (N := 3) rfl ?_); (try (refine gate_guard (by rfl) ?_; dsimp only)); refine be_ (N := 3) (cs := #[.int .i64 a1_0, .string a1_1, .string a1_2]) (t := 24) (h := ?_); intro gb322 hg w24 hbox hb; have BK322 := Aside0.mk (hbox); have GW322 := gw_ HB hg; have GE322 := gw_ HB hg; replace HB := bs_ HB hb; clear hb hbox hg) | (go_at_call 60; (with_reducible refine (calamusref03_Valid.calls k a0 true _ A3.out).mono ?_); rintro e w25 ⟨rfl, hb⟩; replace BK322 := bb_ BK322 hb; replace HB := bs_ HB hb; (try clear hb); (try clear hb2); (try clear hk); (try clear hi); obtain ⟨hcz26_0, hcz26_1, hcz26_2, hfz26_0, hfz26_1, hfz26_2⟩ := bc3_ BK322) | (go_at_call 60; (with_reducible refine (calamusref03_Valid.calls k a1_1 true _ A5.out).mono ?_); rintro e w27 ⟨rfl, hb⟩; replace BK322 := bb_ BK322 hb; replace HB := bs_ HB hb; (try clear hb); (try clear hb2); (try clear hk); (try clear hi); obtain ⟨hcz28_0, hcz28_1, hcz28_2, hfz28_0, hfz28_1, hfz28_2⟩ := bc3_ BK322) | (go_at_call 60; (with_reducible refine (calamusref03_Valid.calls k a1_2 true _ A7.out).mono ?_); rintro e w29 ⟨rfl, hb⟩; replace BK322 := bb_ BK322 hb; replace HB := bs_ HB hb; (try clear hb); (try clear hb2); (try clear hk); (try clear hi); obtain ⟨hcz30_0, hcz30_1, hcz30_2, hfz30_0, hfz30_1, hfz30_2⟩ := bc3_ BK322) | (go_at_call 67; (with_reducible refine (calamusref03_Place.calls k a0 a1_0 true _ A9.out).mono ?_); rintro e w31 ⟨rfl, hb⟩; replace BK322 := bb_ BK322 hb; replace HB := bs_ HB hb; (try clear hb); (try clear hb2); (try clear hk); (try clear hi); obtain ⟨hcz32_0, hcz32_1, hcz32_2, hfz32_0, hfz32_1, hfz32_2⟩ := bc3_ BK322))
      repeat (go_quiet (first | ((with_reducible refine gate_dst (N := 3) rfl ?_); (try (refine gate_guard (by rfl) ?_; dsimp only)); refine be_ (N := 3) (cs := #[.int .i64 a1_0, .string a1_1, .string a1_2]) (t := 24) (h := ?_); intro gb322 hg w24 hbox hb; have BK322 := Aside0.mk (hbox); have GW322 := gw_ HB hg; have GE322 := gw_ HB hg; replace HB := bs_ HB hb; clear hb hbox hg) | (go_at_call 60; (with_reducible refine (calamusref03_Valid.calls k a0 true _ A3.out).mono ?_); rintro e w25 ⟨rfl, hb⟩; replace BK322 := bb_ BK322 hb; replace HB := bs_ HB hb; (try clear hb); (try clear hb2); (try clear hk); (try clear hi); obtain ⟨hcz26_0, hcz26_1, hcz26_2, hfz26_0, hfz26_1, hfz26_2⟩ := bc3_ BK322) | (go_at_call 60; (with_reducible refine (calamusref03_Valid.calls k a1_1 true _ A5.out).mono ?_); rintro e w27 ⟨rfl, hb⟩; replace BK322 := bb_ BK322 hb; replace HB := bs_ HB hb; (try clear hb); (try clear hb2); (try clear hk); (try clear hi); obtain ⟨hcz28_0, hcz28_1, hcz28_2, hfz28_0, hfz28_1, hfz28_2⟩ := bc3_ BK322) | (go_at_call 60; (with_reducible refine (calamusref03_Valid.calls k a1_2 true _ A7.out).mono ?_); rintro e w29 ⟨rfl, hb⟩; replace BK322 := bb_ BK322 hb; replace HB := bs_ HB hb; (try clear hb); (try clear hb2); (try clear hk); (try clear hi); obtain ⟨hcz30_0, hcz30_1, hcz30_2, hfz30_0, hfz30_1, hfz30_2⟩ := bc3_ BK322) | (go_at_call 67; (with_reducible refine (calamusref03_Place.calls k a0 a1_0 true _ A9.out).mono ?_); rintro e w31 ⟨rfl, hb⟩; replace BK322 := bb_ BK322 hb; replace HB := bs_ HB hb; (try clear hb); (try clear hb2); (try clear hk); (try clear hi); obtain ⟨hcz32_0, hcz32_1, hcz32_2, hfz32_0, hfz32_1, hfz32_2⟩ := bc3_ BK322)); try go_wp2_with (first | ((with_reducible refine gate_dst (N := 3) rfl ?_); (try (refine gate_guard (by rfl) ?_; dsimp only)); refine be_ (N := 3) (cs := #[.int .i64 a1_0, .string a1_1, .string a1_2]) (t := 24) (h := ?_); intro gb322 hg w24 hbox hb; have BK322 := Aside0.mk (hbox); have GW322 := gw_ HB hg; have GE322 := gw_ HB hg; replace HB := bs_ HB hb; clear hb hbox hg) | (go_at_call 60; (with_reducible refine (calamusref03_Valid.calls k a0 true _ A3.out).mono ?_); rintro e w25 ⟨rfl, hb⟩; replace BK322 := bb_ BK322 hb; replace HB := bs_ HB hb; (try clear hb); (try clear hb2); (try clear hk); (try clear hi); obtain ⟨hcz26_0, hcz26_1, hcz26_2, hfz26_0, hfz26_1, hfz26_2⟩ := bc3_ BK322) | (go_at_call 60; (with_reducible refine (calamusref03_Valid.calls k a1_1 true _ A5.out).mono ?_); rintro e w27 ⟨rfl, hb⟩; replace BK322 := bb_ BK322 hb; replace HB := bs_ HB hb; (try clear hb); (try clear hb2); (try clear hk); (try clear hi); obtain ⟨hcz28_0, hcz28_1, hcz28_2, hfz28_0, hfz28_1, hfz28_2⟩ := bc3_ BK322) | (go_at_call 60; (with_reducible refine (calamusref03_Valid.calls k a1_2 true _ A7.out).mono ?_); rintro e w29 ⟨rfl, hb⟩; replace BK322 := bb_ BK322 hb; replace HB := bs_ HB hb; (try clear hb); (try clear hb2); (try clear hk); (try clear hi); obtain ⟨hcz30_0, hcz30_1, hcz30_2, hfz30_0, hfz30_1, hfz30_2⟩ := bc3_ BK322) | (go_at_call 67; (with_reducible refine (calamusref03_Place.calls k a0 a1_0 true _ A9.out).mono ?_); rintro e w31 ⟨rfl, hb⟩; replace BK322 := bb_ BK322 hb; replace HB := bs_ HB hb; (try clear hb); (try clear hb2); (try clear hk); (try clear hi); obtain ⟨hcz32_0, hcz32_1, hcz32_2, hfz32_0, hfz32_1, hfz32_2⟩ := bc3_ BK322)))
      go_ret
      exact ⟨er_, hb_ HB⟩
    ·replace c10 := Bool.eq_false_iff.mpr c10
     subst c10
     have H1 : (some false) = some r := by rw [if_neg (show ¬ (false = true) by decide)] at H; exact H
     clear H
     have H := H1
     clear H1
     obtain rfl := Option.some.inj H
     go_enter Try.func24, Try.ntmps24
     go_wp2_with (first | ((with_reducible refine gate_dst (N := 3) rfl ?_); (try (refine gate_guard (by rfl) ?_; dsimp only)); refine be_ (N := 3) (cs := #[.int .i64 a1_0, .string a1_1, .string a1_2]) (t := 24) (h := ?_); intro gb322 hg w33 hbox hb; have BK322 := Aside0.mk (hbox); have GW322 := gw_ HB hg; have GE322 := gw_ HB hg; replace HB := bs_ HB hb; clear hb hbox hg) | (go_at_call 60; (with_reducible refine (calamusref03_Valid.calls k a0 true _ A3.out).mono ?_); rintro e w34 ⟨rfl, hb⟩; replace BK322 := bb_ BK322 hb; replace HB := bs_ HB hb; (try clear hb); (try clear hb2); (try clear hk); (try clear hi); obtain ⟨hcz35_0, hcz35_1, hcz35_2, hfz35_0, hfz35_1, hfz35_2⟩ := bc3_ BK322) | (go_at_call 60; (with_reducible refine (calamusref03_Valid.calls k a1_1 true _ A5.out).mono ?_); rintro e w36 ⟨rfl, hb⟩; replace BK322 := bb_ BK322 hb; replace HB := bs_ HB hb; (try clear hb); (try clear hb2); (try clear hk); (try clear hi); obtain ⟨hcz37_0, hcz37_1, hcz37_2, hfz37_0, hfz37_1, hfz37_2⟩ := bc3_ BK322) | (go_at_call 60; (with_reducible refine (calamusref03_Valid.calls k a1_2 true _ A7.out).mono ?_); rintro e w38 ⟨rfl, hb⟩; replace BK322 := bb_ BK322 hb; replace HB := bs_ HB hb; (try clear hb); (try clear hb2); (try clear hk); (try clear hi); obtain ⟨hcz39_0, hcz39_1, hcz39_2, hfz39_0, hfz39_1, hfz39_2⟩ := bc3_ BK322) | (go_at_call 67; (with_reducible refine (calamusref03_Place.calls k a0 a1_0 false _ A9.out).mono ?_); rintro e w40 ⟨rfl, hb⟩; replace BK322 := bb_ BK322 hb; replace HB := bs_ HB hb; (try clear hb); (try clear hb2); (try clear hk); (try clear hi)))
     repeat (go_quiet (first | ((with_reducible refine gate_dst (N := 3) rfl ?_); (try (refine gate_guard (by rfl) ?_; dsimp only)); refine be_ (N := 3) (cs := #[.int .i64 a1_0, .string a1_1, .string a1_2]) (t := 24) (h := ?_); intro gb322 hg w33 hbox hb; have BK322 := Aside0.mk (hbox); have GW322 := gw_ HB hg; have GE322 := gw_ HB hg; replace HB := bs_ HB hb; clear hb hbox hg) | (go_at_call 60; (with_reducible refine (calamusref03_Valid.calls k a0 true _ A3.out).mono ?_); rintro e w34 ⟨rfl, hb⟩; replace BK322 := bb_ BK322 hb; replace HB := bs_ HB hb; (try clear hb); (try clear hb2); (try clear hk); (try clear hi); obtain ⟨hcz35_0, hcz35_1, hcz35_2, hfz35_0, hfz35_1, hfz35_2⟩ := bc3_ BK322) | (go_at_call 60; (with_reducible refine (calamusref03_Valid.calls k a1_1 true _ A5.out).mono ?_); rintro e w36 ⟨rfl, hb⟩; replace BK322 := bb_ BK322 hb; replace HB := bs_ HB hb; (try clear hb); (try clear hb2); (try clear hk); (try clear hi); obtain ⟨hcz37_0, hcz37_1, hcz37_2, hfz37_0, hfz37_1, hfz37_2⟩ := bc3_ BK322) | (go_at_call 60; (with_reducible refine (calamusref03_Valid.calls k a1_2 true _ A7.out).mono ?_); rintro e w38 ⟨rfl, hb⟩; replace BK322 := bb_ BK322 hb; replace HB := bs_ HB hb; (try clear hb); (try clear hb2); (try clear hk); (try clear hi); obtain ⟨hcz39_0, hcz39_1, hcz39_2, hfz39_0, hfz39_1, hfz39_2⟩ := bc3_ BK322) | (go_at_call 67; (with_reducible refine (calamusref03_Place.calls k a0 a1_0 false _ A9.out).mono ?_); rintro e w40 ⟨rfl, hb⟩; replace BK322 := bb_ BK322 hb; replace HB := bs_ HB hb; (try clear hb); (try clear hb2); (try clear hk); (try clear hi))); try go_wp2_with (first | ((with_reducible refine gate_dst (N := 3) rfl ?_); (try (refine gate_guard (by rfl) ?_; dsimp only)); refine be_ (N := 3) (cs := #[.int .i64 a1_0, .string a1_1, .string a1_2]) (t := 24) (h := ?_); intro gb322 hg w33 hbox hb; have BK322 := Aside0.mk (hbox); have GW322 := gw_ HB hg; have GE322 := gw_ HB hg; replace HB := bs_ HB hb; clear hb hbox hg) | (go_at_call 60; (with_reducible refine (calamusref03_Valid.calls k a0 true _ A3.out).mono ?_); rintro e w34 ⟨rfl, hb⟩; replace BK322 := bb_ BK322 hb; replace HB := bs_ HB hb; (try clear hb); (try clear hb2); (try clear hk); (try clear hi); obtain ⟨hcz35_0, hcz35_1, hcz35_2, hfz35_0, hfz35_1, hfz35_2⟩ := bc3_ BK322) | (go_at_call 60; (with_reducible refine (calamusref03_Valid.calls k a1_1 true _ A5.out).mono ?_); rintro e w36 ⟨rfl, hb⟩; replace BK322 := bb_ BK322 hb; replace HB := bs_ HB hb; (try clear hb); (try clear hb2); (try clear hk); (try clear hi); obtain ⟨hcz37_0, hcz37_1, hcz37_2, hfz37_0, hfz37_1, hfz37_2⟩ := bc3_ BK322) | (go_at_call 60; (with_reducible refine (calamusref03_Valid.calls k a1_2 true _ A7.out).mono ?_); rintro e w38 ⟨rfl, hb⟩; replace BK322 := bb_ BK322 hb; replace HB := bs_ HB hb; (try clear hb); (try clear hb2); (try clear hk); (try clear hi); obtain ⟨hcz39_0, hcz39_1, hcz39_2, hfz39_0, hfz39_1, hfz39_2⟩ := bc3_ BK322) | (go_at_call 67; (with_reducible refine (calamusref03_Place.calls k a0 a1_0 false _ A9.out).mono ?_); rintro e w40 ⟨rfl, hb⟩; replace BK322 := bb_ BK322 hb; replace HB := bs_ HB hb; (try clear hb); (try clear hb2); (try clear hk); (try clear hi))))
     go_ret
     exact ⟨er_, hb_ HB⟩
   ·replace c8 := Bool.eq_false_iff.mpr c8
    subst c8
    have H1 : (some false) = some r := by rw [if_neg (show ¬ (false = true) by decide)] at H; exact H
    clear H
    have H := H1
    clear H1
    obtain rfl := Option.some.inj H
    go_enter Try.func24, Try.ntmps24
    go_wp2_with (first | ((with_reducible refine gate_dst (N := 3) rfl ?_); (try (refine gate_guard (by rfl) ?_; dsimp only)); refine be_ (N := 3) (cs := #[.int .i64 a1_0, .string a1_1, .string a1_2]) (t := 24) (h := ?_); intro gb322 hg w41 hbox hb; have BK322 := Aside0.mk (hbox); have GW322 := gw_ HB hg; have GE322 := gw_ HB hg; replace HB := bs_ HB hb; clear hb hbox hg) | (go_at_call 60; (with_reducible refine (calamusref03_Valid.calls k a0 true _ A3.out).mono ?_); rintro e w42 ⟨rfl, hb⟩; replace BK322 := bb_ BK322 hb; replace HB := bs_ HB hb; (try clear hb); (try clear hb2); (try clear hk); (try clear hi); obtain ⟨hcz43_0, hcz43_1, hcz43_2, hfz43_0, hfz43_1, hfz43_2⟩ := bc3_ BK322) | (go_at_call 60; (with_reducible refine (calamusref03_Valid.calls k a1_1 true _ A5.out).mono ?_); rintro e w44 ⟨rfl, hb⟩; replace BK322 := bb_ BK322 hb; replace HB := bs_ HB hb; (try clear hb); (try clear hb2); (try clear hk); (try clear hi); obtain ⟨hcz45_0, hcz45_1, hcz45_2, hfz45_0, hfz45_1, hfz45_2⟩ := bc3_ BK322) | (go_at_call 60; (with_reducible refine (calamusref03_Valid.calls k a1_2 false _ A7.out).mono ?_); rintro e w46 ⟨rfl, hb⟩; replace BK322 := bb_ BK322 hb; replace HB := bs_ HB hb; (try clear hb); (try clear hb2); (try clear hk); (try clear hi)))
    repeat (go_quiet (first | ((with_reducible refine gate_dst (N := 3) rfl ?_); (try (refine gate_guard (by rfl) ?_; dsimp only)); refine be_ (N := 3) (cs := #[.int .i64 a1_0, .string a1_1, .string a1_2]) (t := 24) (h := ?_); intro gb322 hg w41 hbox hb; have BK322 := Aside0.mk (hbox); have GW322 := gw_ HB hg; have GE322 := gw_ HB hg; replace HB := bs_ HB hb; clear hb hbox hg) | (go_at_call 60; (with_reducible refine (calamusref03_Valid.calls k a0 true _ A3.out).mono ?_); rintro e w42 ⟨rfl, hb⟩; replace BK322 := bb_ BK322 hb; replace HB := bs_ HB hb; (try clear hb); (try clear hb2); (try clear hk); (try clear hi); obtain ⟨hcz43_0, hcz43_1, hcz43_2, hfz43_0, hfz43_1, hfz43_2⟩ := bc3_ BK322) | (go_at_call 60; (with_reducible refine (calamusref03_Valid.calls k a1_1 true _ A5.out).mono ?_); rintro e w44 ⟨rfl, hb⟩; replace BK322 := bb_ BK322 hb; replace HB := bs_ HB hb; (try clear hb); (try clear hb2); (try clear hk); (try clear hi); obtain ⟨hcz45_0, hcz45_1, hcz45_2, hfz45_0, hfz45_1, hfz45_2⟩ := bc3_ BK322) | (go_at_call 60; (with_reducible refine (calamusref03_Valid.calls k a1_2 false _ A7.out).mono ?_); rintro e w46 ⟨rfl, hb⟩; replace BK322 := bb_ BK322 hb; replace HB := bs_ HB hb; (try clear hb); (try clear hb2); (try clear hk); (try clear hi))); try go_wp2_with (first | ((with_reducible refine gate_dst (N := 3) rfl ?_); (try (refine gate_guard (by rfl) ?_; dsimp only)); refine be_ (N := 3) (cs := #[.int .i64 a1_0, .string a1_1, .string a1_2]) (t := 24) (h := ?_); intro gb322 hg w41 hbox hb; have BK322 := Aside0.mk (hbox); have GW322 := gw_ HB hg; have GE322 := gw_ HB hg; replace HB := bs_ HB hb; clear hb hbox hg) | (go_at_call 60; (with_reducible refine (calamusref03_Valid.calls k a0 true _ A3.out).mono ?_); rintro e w42 ⟨rfl, hb⟩; replace BK322 := bb_ BK322 hb; replace HB := bs_ HB hb; (try clear hb); (try clear hb2); (try clear hk); (try clear hi); obtain ⟨hcz43_0, hcz43_1, hcz43_2, hfz43_0, hfz43_1, hfz43_2⟩ := bc3_ BK322) | (go_at_call 60; (with_reducible refine (calamusref03_Valid.calls k a1_1 true _ A5.out).mono ?_); rintro e w44 ⟨rfl, hb⟩; replace BK322 := bb_ BK322 hb; replace HB := bs_ HB hb; (try clear hb); (try clear hb2); (try clear hk); (try clear hi); obtain ⟨hcz45_0, hcz45_1, hcz45_2, hfz45_0, hfz45_1, hfz45_2⟩ := bc3_ BK322) | (go_at_call 60; (with_reducible refine (calamusref03_Valid.calls k a1_2 false _ A7.out).mono ?_); rintro e w46 ⟨rfl, hb⟩; replace BK322 := bb_ BK322 hb; replace HB := bs_ HB hb; (try clear hb); (try clear hb2); (try clear hk); (try clear hi))))
    go_ret
    exact ⟨er_, hb_ HB⟩
  ·replace c6 := Bool.eq_false_iff.mpr c6
   subst c6
   have H1 : (some false) = some r := by rw [if_neg (show ¬ (false = true) by decide)] at H; exact H
   clear H
   have H := H1
   clear H1
   obtain rfl := Option.some.inj H
   go_enter Try.func24, Try.ntmps24
   go_wp2_with (first | ((with_reducible refine gate_dst (N := 3) rfl ?_); (try (refine gate_guard (by rfl) ?_; dsimp only)); refine be_ (N := 3) (cs := #[.int .i64 a1_0, .string a1_1, .string a1_2]) (t := 24) (h := ?_); intro gb322 hg w47 hbox hb; have BK322 := Aside0.mk (hbox); have GW322 := gw_ HB hg; have GE322 := gw_ HB hg; replace HB := bs_ HB hb; clear hb hbox hg) | (go_at_call 60; (with_reducible refine (calamusref03_Valid.calls k a0 true _ A3.out).mono ?_); rintro e w48 ⟨rfl, hb⟩; replace BK322 := bb_ BK322 hb; replace HB := bs_ HB hb; (try clear hb); (try clear hb2); (try clear hk); (try clear hi); obtain ⟨hcz49_0, hcz49_1, hcz49_2, hfz49_0, hfz49_1, hfz49_2⟩ := bc3_ BK322) | (go_at_call 60; (with_reducible refine (calamusref03_Valid.calls k a1_1 false _ A5.out).mono ?_); rintro e w50 ⟨rfl, hb⟩; replace BK322 := bb_ BK322 hb; replace HB := bs_ HB hb; (try clear hb); (try clear hb2); (try clear hk); (try clear hi)))
   repeat (go_quiet (first | ((with_reducible refine gate_dst (N := 3) rfl ?_); (try (refine gate_guard (by rfl) ?_; dsimp only)); refine be_ (N := 3) (cs := #[.int .i64 a1_0, .string a1_1, .string a1_2]) (t := 24) (h := ?_); intro gb322 hg w47 hbox hb; have BK322 := Aside0.mk (hbox); have GW322 := gw_ HB hg; have GE322 := gw_ HB hg; replace HB := bs_ HB hb; clear hb hbox hg) | (go_at_call 60; (with_reducible refine (calamusref03_Valid.calls k a0 true _ A3.out).mono ?_); rintro e w48 ⟨rfl, hb⟩; replace BK322 := bb_ BK322 hb; replace HB := bs_ HB hb; (try clear hb); (try clear hb2); (try clear hk); (try clear hi); obtain ⟨hcz49_0, hcz49_1, hcz49_2, hfz49_0, hfz49_1, hfz49_2⟩ := bc3_ BK322) | (go_at_call 60; (with_reducible refine (calamusref03_Valid.calls k a1_1 false _ A5.out).mono ?_); rintro e w50 ⟨rfl, hb⟩; replace BK322 := bb_ BK322 hb; replace HB := bs_ HB hb; (try clear hb); (try clear hb2); (try clear hk); (try clear hi))); try go_wp2_with (first | ((with_reducible refine gate_dst (N := 3) rfl ?_); (try (refine gate_guard (by rfl) ?_; dsimp only)); refine be_ (N := 3) (cs := #[.int .i64 a1_0, .string a1_1, .string a1_2]) (t := 24) (h := ?_); intro gb322 hg w47 hbox hb; have BK322 := Aside0.mk (hbox); have GW322 := gw_ HB hg; have GE322 := gw_ HB hg; replace HB := bs_ HB hb; clear hb hbox hg) | (go_at_call 60; (with_reducible refine (calamusref03_Valid.calls k a0 true _ A3.out).mono ?_); rintro e w48 ⟨rfl, hb⟩; replace BK322 := bb_ BK322 hb; replace HB := bs_ HB hb; (try clear hb); (try clear hb2); (try clear hk); (try clear hi); obtain ⟨hcz49_0, hcz49_1, hcz49_2, hfz49_0, hfz49_1, hfz49_2⟩ := bc3_ BK322) | (go_at_call 60; (with_reducible refine (calamusref03_Valid.calls k a1_1 false _ A5.out).mono ?_); rintro e w50 ⟨rfl, hb⟩; replace BK322 := bb_ BK322 hb; replace HB := bs_ HB hb; (try clear hb); (try clear hb2); (try clear hk); (try clear hi))))
   go_ret
   exact ⟨er_, hb_ HB⟩
 ·replace c4 := Bool.eq_false_iff.mpr c4
  subst c4
  have H1 : (some false) = some r := by rw [if_neg (show ¬ (false = true) by decide)] at H; exact H
  clear H
  have H := H1
  clear H1
  obtain rfl := Option.some.inj H
  go_enter Try.func24, Try.ntmps24
  go_wp2_with (first | ((with_reducible refine gate_dst (N := 3) rfl ?_); (try (refine gate_guard (by rfl) ?_; dsimp only)); refine be_ (N := 3) (cs := #[.int .i64 a1_0, .string a1_1, .string a1_2]) (t := 24) (h := ?_); intro gb322 hg w51 hbox hb; have BK322 := Aside0.mk (hbox); have GW322 := gw_ HB hg; have GE322 := gw_ HB hg; replace HB := bs_ HB hb; clear hb hbox hg) | (go_at_call 60; (with_reducible refine (calamusref03_Valid.calls k a0 false _ A3.out).mono ?_); rintro e w52 ⟨rfl, hb⟩; replace BK322 := bb_ BK322 hb; replace HB := bs_ HB hb; (try clear hb); (try clear hb2); (try clear hk); (try clear hi)))
  repeat (go_quiet (first | ((with_reducible refine gate_dst (N := 3) rfl ?_); (try (refine gate_guard (by rfl) ?_; dsimp only)); refine be_ (N := 3) (cs := #[.int .i64 a1_0, .string a1_1, .string a1_2]) (t := 24) (h := ?_); intro gb322 hg w51 hbox hb; have BK322 := Aside0.mk (hbox); have GW322 := gw_ HB hg; have GE322 := gw_ HB hg; replace HB := bs_ HB hb; clear hb hbox hg) | (go_at_call 60; (with_reducible refine (calamusref03_Valid.calls k a0 false _ A3.out).mono ?_); rintro e w52 ⟨rfl, hb⟩; replace BK322 := bb_ BK322 hb; replace HB := bs_ HB hb; (try clear hb); (try clear hb2); (try clear hk); (try clear hi))); try go_wp2_with (first | ((with_reducible refine gate_dst (N := 3) rfl ?_); (try (refine gate_guard (by rfl) ?_; dsimp only)); refine be_ (N := 3) (cs := #[.int .i64 a1_0, .string a1_1, .string a1_2]) (t := 24) (h := ?_); intro gb322 hg w51 hbox hb; have BK322 := Aside0.mk (hbox); have GW322 := gw_ HB hg; have GE322 := gw_ HB hg; replace HB := bs_ HB hb; clear hb hbox hg) | (go_at_call 60; (with_reducible refine (calamusref03_Valid.calls k a0 false _ A3.out).mono ?_); rintro e w52 ⟨rfl, hb⟩; replace BK322 := bb_ BK322 hb; replace HB := bs_ HB hb; (try clear hb); (try clear hb2); (try clear hk); (try clear hi))))
  go_ret
  exact ⟨er_, hb_ HB⟩

/-! ### calamusref08_Do: function 22 -/
def calamusref08_Do.l0 : Nat → ByteArray → List (S24) → Int → Option (ByteArray × Int)
 | 0, _, _, _ => none
 | k + 1, x0, x1, x6 => if x6 < (x1.length : Int) then (if 0 ≤ x6 then ((calamusref08_Fits.f k x0 ((rd_T24 x1 x6).f0) ((rd_T24 x1 x6).f1) ((rd_T24 x1 x6).f2)).bind fun t329 => (if t329 = true then (if 0 ≤ ((rd_T24 x1 x6).f0) then (if ((rd_T24 x1 x6).f0) ≤ (x0.size : Int) then (if (x0.extract 0 (((rd_T24 x1 x6).f0) : Int).toNat).size + ((rd_T24 x1 x6).f2).size ≤ 9223372036854775807 then (if 0 ≤ (wrap64 (((rd_T24 x1 x6).f0) + (((rd_T24 x1 x6).f1).size : Int))) then (if (wrap64 (((rd_T24 x1 x6).f0) + (((rd_T24 x1 x6).f1).size : Int))) ≤ (x0.size : Int) then (if ((x0.extract 0 (((rd_T24 x1 x6).f0) : Int).toNat) ++ ((rd_T24 x1 x6).f2)).size + (x0.extract ((wrap64 (((rd_T24 x1 x6).f0) + (((rd_T24 x1 x6).f1).size : Int))) : Int).toNat x0.size).size ≤ 9223372036854775807 then (if ((((x0.extract 0 (((rd_T24 x1 x6).f0) : Int).toNat) ++ ((rd_T24 x1 x6).f2)) ++ (x0.extract ((wrap64 (((rd_T24 x1 x6).f0) + (((rd_T24 x1 x6).f1).size : Int))) : Int).toNat x0.size)).size : Int) > 4096 then (some ((⟨#[]⟩ : ByteArray), 8)) else (calamusref08_Do.l0 k (((x0.extract 0 (((rd_T24 x1 x6).f0) : Int).toNat) ++ ((rd_T24 x1 x6).f2)) ++ (x0.extract ((wrap64 (((rd_T24 x1 x6).f0) + (((rd_T24 x1 x6).f1).size : Int))) : Int).toNat x0.size)) x1 (wrap64 (x6 + 1)))) else (none)) else (none)) else (none)) else (none)) else (none)) else (none)) else (some ((⟨#[]⟩ : ByteArray), 1)))) else (none)) else (some (x0, 0))
def calamusref08_Do.f (k : Nat) (a0 : ByteArray) (l1 : List (S24)) : Option (ByteArray × Int) := calamusref08_Do.l0 k a0 l1 0
theorem calamusref08_Do.mono_l : ∀ k, (∀ y0 y1 y2, LeO (calamusref08_Do.l0 k y0 y1 y2) (calamusref08_Do.l0 (k + 1) y0 y1 y2))
 | 0 => fun _ _ _ r h => by simp [calamusref08_Do.l0] at h
 | k + 1 => by
  have ih0 := calamusref08_Do.mono_l k
  ·intro y0 y1 y2
   unfold calamusref08_Do.l0
   repeat' first
   | (with_reducible exact ih0 _ _ _)
   | (with_reducible exact calamusref08_Fits.mono _ _ _ _ _)
   | (with_reducible exact LeO.refl _)
   | (with_reducible exact LeO.none _)
   | (with_reducible refine LeO.ite ?_ ?_)
   | (with_reducible refine LeO.bind ?_ (fun _ => ?_))
   | exact ih0 _ _ _
   | exact calamusref08_Fits.mono _ _ _ _ _
   | exact LeO.none _
   | refine LeO.ite ?_ ?_
   | refine LeO.bind ?_ (fun _ => ?_)
theorem calamusref08_Do.mono : ∀ a0 a1 k, LeO (calamusref08_Do.f k a0 a1) (calamusref08_Do.f (k + 1) a0 a1) := by
 intro a0 a1 k
 have ih0 := calamusref08_Do.mono_l k
 unfold calamusref08_Do.f
 repeat' first
   | (with_reducible exact ih0 _ _ _)
   | (with_reducible exact calamusref08_Fits.mono _ _ _ _ _)
   | (with_reducible exact LeO.refl _)
   | (with_reducible exact LeO.none _)
   | (with_reducible refine LeO.ite ?_ ?_)
   | (with_reducible refine LeO.bind ?_ (fun _ => ?_))
   | exact ih0 _ _ _
   | exact calamusref08_Fits.mono _ _ _ _ _
   | exact LeO.none _
   | refine LeO.ite ?_ ?_
   | refine LeO.bind ?_ (fun _ => ?_)
set_option maxHeartbeats 8000000 in
set_option maxRecDepth 100000 in
theorem calamusref08_Do.calls (k : Nat) (a0 : ByteArray) (A1 : Option Addr) (c1 : Nat) (l1 : List (S24)) (r1 : ByteArray) (r2 : Int) (w : World) (hr1 : Kd.C k24 w A1 l1.length l1) (hc1 : l1.length ≤ c1) (h : calamusref08_Do.f k a0 l1 = some (r1, r2)) :
  Calls Try.prog 22 #[.string a0, .slice A1 l1.length c1] w fun e w' => e = .returned (.tuple #[.string r1, .int .i64 r2]) ∧ Below w.heap.size w w' := by
 have hu24 := Try.underlying24
 have HR1 := Aside0.mk hr1
 have HC1 := Aside0.mk hc1
 clear hr1 hc1
 have HB := Aside0.mk (Below.refl w.heap.size w)
 have H : (calamusref08_Do.l0 k a0 l1 0) = some (r1, r2) := h
 clear h
 have H' := Aside0.mk H
 clear H
 go_enter Try.func22, Try.ntmps22
 go_wp2
 repeat (go_quiet (fail); try go_wp2)
 go_loopg [0, 6] k (fun kq v0 v6 w' => ∃ (x0_1 : ByteArray) (x6_1 : Int), v0 = .string x0_1 ∧ v6 = .int .i64 x6_1 ∧ Aside0 (calamusref08_Do.l0 kq x0_1 l1 x6_1 = some (r1, r2)) ∧ Aside0 (kq ≤ k) ∧ Aside0 (Below w.heap.size w w'))
 case atStart => exact ⟨(a0), (0), es_, es_, H', ⟨Nat.le_refl _⟩, ⟨hb_ HB⟩⟩
 case round =>
  clear H'
  obtain ⟨x0_1, x6_1, rfl, rfl, HA, HK1, HB⟩ := hrel
  cases gk with
  | zero => exact absurd HA.out (by simp [calamusref08_Do.l0])
  | succ k1 =>
   have H := HA.out
   clear HA
   simp only [calamusref08_Do.l0] at H
   by_cases c3 : x6_1 < (l1.length : Int)
   ·rw [if_pos c3] at H
    have c3b0 : decide (x6_1 < (l1.length : Int)) = true := decide_eq_true c3
    clear c3
    by_cases c4 : 0 ≤ x6_1
    ·rw [if_pos c4] at H
     have c4b0 : decide (0 ≤ x6_1) = true := decide_eq_true c4
     clear c4
     replace H := Option.bind_eq_some_iff.mp H
     obtain ⟨t329, A50, H⟩ := H
     replace H : (if t329 = true then (if 0 ≤ ((rd_T24 l1 x6_1).f0) then (if ((rd_T24 l1 x6_1).f0) ≤ (x0_1.size : Int) then (if (x0_1.extract 0 (((rd_T24 l1 x6_1).f0) : Int).toNat).size + ((rd_T24 l1 x6_1).f2).size ≤ 9223372036854775807 then (if 0 ≤ (wrap64 (((rd_T24 l1 x6_1).f0) + (((rd_T24 l1 x6_1).f1).size : Int))) then (if (wrap64 (((rd_T24 l1 x6_1).f0) + (((rd_T24 l1 x6_1).f1).size : Int))) ≤ (x0_1.size : Int) then (if ((x0_1.extract 0 (((rd_T24 l1 x6_1).f0) : Int).toNat) ++ ((rd_T24 l1 x6_1).f2)).size + (x0_1.extract ((wrap64 (((rd_T24 l1 x6_1).f0) + (((rd_T24 l1 x6_1).f1).size : Int))) : Int).toNat x0_1.size).size ≤ 9223372036854775807 then (if ((((x0_1.extract 0 (((rd_T24 l1 x6_1).f0) : Int).toNat) ++ ((rd_T24 l1 x6_1).f2)) ++ (x0_1.extract ((wrap64 (((rd_T24 l1 x6_1).f0) + (((rd_T24 l1 x6_1).f1).size : Int))) : Int).toNat x0_1.size)).size : Int) > 4096 then (some ((⟨#[]⟩ : ByteArray), 8)) else (calamusref08_Do.l0 k1 (((x0_1.extract 0 (((rd_T24 l1 x6_1).f0) : Int).toNat) ++ ((rd_T24 l1 x6_1).f2)) ++ (x0_1.extract ((wrap64 (((rd_T24 l1 x6_1).f0) + (((rd_T24 l1 x6_1).f1).size : Int))) : Int).toNat x0_1.size)) l1 (wrap64 (x6_1 + 1)))) else (none)) else (none)) else (none)) else (none)) else (none)) else (none)) else (some ((⟨#[]⟩ : ByteArray), 1))) = some (r1, r2) := H
     have A5 := Aside0.mk A50
     clear A50
     by_cases c6 : t329 = true
     ·subst c6
      have H1 : (if 0 ≤ ((rd_T24 l1 x6_1).f0) then (if ((rd_T24 l1 x6_1).f0) ≤ (x0_1.size : Int) then (if (x0_1.extract 0 (((rd_T24 l1 x6_1).f0) : Int).toNat).size + ((rd_T24 l1 x6_1).f2).size ≤ 9223372036854775807 then (if 0 ≤ (wrap64 (((rd_T24 l1 x6_1).f0) + (((rd_T24 l1 x6_1).f1).size : Int))) then (if (wrap64 (((rd_T24 l1 x6_1).f0) + (((rd_T24 l1 x6_1).f1).size : Int))) ≤ (x0_1.size : Int) then (if ((x0_1.extract 0 (((rd_T24 l1 x6_1).f0) : Int).toNat) ++ ((rd_T24 l1 x6_1).f2)).size + (x0_1.extract ((wrap64 (((rd_T24 l1 x6_1).f0) + (((rd_T24 l1 x6_1).f1).size : Int))) : Int).toNat x0_1.size).size ≤ 9223372036854775807 then (if ((((x0_1.extract 0 (((rd_T24 l1 x6_1).f0) : Int).toNat) ++ ((rd_T24 l1 x6_1).f2)) ++ (x0_1.extract ((wrap64 (((rd_T24 l1 x6_1).f0) + (((rd_T24 l1 x6_1).f1).size : Int))) : Int).toNat x0_1.size)).size : Int) > 4096 then (some ((⟨#[]⟩ : ByteArray), 8)) else (calamusref08_Do.l0 k1 (((x0_1.extract 0 (((rd_T24 l1 x6_1).f0) : Int).toNat) ++ ((rd_T24 l1 x6_1).f2)) ++ (x0_1.extract ((wrap64 (((rd_T24 l1 x6_1).f0) + (((rd_T24 l1 x6_1).f1).size : Int))) : Int).toNat x0_1.size)) l1 (wrap64 (x6_1 + 1)))) else (none)) else (none)) else (none)) else (none)) else (none)) else (none)) = some (r1, r2) := by rw [if_pos rfl] at H; exact H
      clear H
      have H := H1
      clear H1
      by_cases c7 : 0 ≤ ((rd_T24 l1 x6_1).f0)
      ·rw [if_pos c7] at H
       have c7b0 := eq_true c7
       try (have c7b0x := c7b0; simp only [ByteArray.size_extract, Nat.min_self] at c7b0x)
       have c7b1 : decide (0 ≤ ((rd_T24 l1 x6_1).f0)) = true := decide_eq_true c7
       clear c7
       by_cases c8 : ((rd_T24 l1 x6_1).f0) ≤ (x0_1.size : Int)
       ·rw [if_pos c8] at H
        have c8b0 := eq_true c8
        try (have c8b0x := c8b0; simp only [ByteArray.size_extract, Nat.min_self] at c8b0x)
        have c8b1 : decide (((rd_T24 l1 x6_1).f0) ≤ (x0_1.size : Int)) = true := decide_eq_true c8
        clear c8
        by_cases c9 : (x0_1.extract 0 (((rd_T24 l1 x6_1).f0) : Int).toNat).size + ((rd_T24 l1 x6_1).f2).size ≤ 9223372036854775807
        ·rw [if_pos c9] at H
         have c9b0 := eq_true c9
         try (have c9b0x := c9b0; simp only [ByteArray.size_extract, Nat.min_self] at c9b0x)
         have c9b1 : decide ((x0_1.extract 0 (((rd_T24 l1 x6_1).f0) : Int).toNat).size + ((rd_T24 l1 x6_1).f2).size ≤ 9223372036854775807) = true := decide_eq_true c9
         try (have c9b1x := c9b1; simp [-decide_eq_true_eq, -decide_eq_false_iff_not, c7b0, c8b0, c9b0] at c9b1x)
         try have c9b2 : (9223372036854775807 < (x0_1.extract 0 (((rd_T24 l1 x6_1).f0) : Int).toNat).size + ((rd_T24 l1 x6_1).f2).size) = False := eq_false (Nat.not_lt.2 c9)
         obtain ⟨ji10, hji10⟩ : ∃ j_ : Int, (wrap64 (((rd_T24 l1 x6_1).f0) + (((rd_T24 l1 x6_1).f1).size : Int))) = j_ := ⟨_, rfl⟩
         replace H : (if 0 ≤ (ji10) then (if (ji10) ≤ (x0_1.size : Int) then (if ((x0_1.extract 0 (((rd_T24 l1 x6_1).f0) : Int).toNat) ++ ((rd_T24 l1 x6_1).f2)).size + (x0_1.extract ((ji10) : Int).toNat x0_1.size).size ≤ 9223372036854775807 then (if ((((x0_1.extract 0 (((rd_T24 l1 x6_1).f0) : Int).toNat) ++ ((rd_T24 l1 x6_1).f2)) ++ (x0_1.extract ((ji10) : Int).toNat x0_1.size)).size : Int) > 4096 then (some ((⟨#[]⟩ : ByteArray), 8)) else (calamusref08_Do.l0 k1 (((x0_1.extract 0 (((rd_T24 l1 x6_1).f0) : Int).toNat) ++ ((rd_T24 l1 x6_1).f2)) ++ (x0_1.extract ((ji10) : Int).toNat x0_1.size)) l1 (wrap64 (x6_1 + 1)))) else (none)) else (none)) else (none)) = some (r1, r2) := by first | (rw [hji10] at H; exact H) | (simp only [hji10] at H ⊢; exact H)
         (try rw [hji10] at A5)
         have hji10w : (IntKind.i64.wrap (((rd_T24 l1 x6_1).f0) + (((rd_T24 l1 x6_1).f1).size : Int))) = ji10 := (i64_w _).trans hji10
         try (have hji10x := hji10; simp only [ByteArray.size_extract, Nat.min_self] at hji10x)
         by_cases c11 : 0 ≤ (ji10)
         ·rw [if_pos c11] at H
          have c11b0 := eq_true c11
          try (have c11b0x := c11b0; simp only [ByteArray.size_extract, Nat.min_self] at c11b0x)
          have c11b1 : decide (0 ≤ (ji10)) = true := decide_eq_true c11
          clear c11
          by_cases c12 : (ji10) ≤ (x0_1.size : Int)
          ·rw [if_pos c12] at H
           have c12b0 := eq_true c12
           try (have c12b0x := c12b0; simp only [ByteArray.size_extract, Nat.min_self] at c12b0x)
           have c12b1 : decide ((ji10) ≤ (x0_1.size : Int)) = true := decide_eq_true c12
           clear c12
           by_cases c13 : ((x0_1.extract 0 (((rd_T24 l1 x6_1).f0) : Int).toNat) ++ ((rd_T24 l1 x6_1).f2)).size + (x0_1.extract ((ji10) : Int).toNat x0_1.size).size ≤ 9223372036854775807
           ·rw [if_pos c13] at H
            have c13b0 := eq_true c13
            try (have c13b0x := c13b0; simp only [ByteArray.size_extract, Nat.min_self] at c13b0x)
            have c13b1 : decide (((x0_1.extract 0 (((rd_T24 l1 x6_1).f0) : Int).toNat) ++ ((rd_T24 l1 x6_1).f2)).size + (x0_1.extract ((ji10) : Int).toNat x0_1.size).size ≤ 9223372036854775807) = true := decide_eq_true c13
            try (have c13b1x := c13b1; simp [-decide_eq_true_eq, -decide_eq_false_iff_not, c7b0, c8b0, c9b0, c11b0, c12b0, c13b0] at c13b1x)
            try have c13b2 : (9223372036854775807 < ((x0_1.extract 0 (((rd_T24 l1 x6_1).f0) : Int).toNat) ++ ((rd_T24 l1 x6_1).f2)).size + (x0_1.extract ((ji10) : Int).toNat x0_1.size).size) = False := eq_false (Nat.not_lt.2 c13)
            by_cases c14 : ((((x0_1.extract 0 (((rd_T24 l1 x6_1).f0) : Int).toNat) ++ ((rd_T24 l1 x6_1).f2)) ++ (x0_1.extract ((ji10) : Int).toNat x0_1.size)).size : Int) > 4096
            ·rw [if_pos c14] at H
             have c14b0 : decide (4096 < ((((x0_1.extract 0 (((rd_T24 l1 x6_1).f0) : Int).toNat) ++ ((rd_T24 l1 x6_1).f2)) ++ (x0_1.extract ((ji10) : Int).toNat x0_1.size)).size : Int)) = true := decide_eq_true c14
             try (have c14b0x := c14b0; simp [-decide_eq_true_eq, -decide_eq_false_iff_not, c7b0, c8b0, c9b0, c11b0, c12b0, c13b0] at c14b0x)
             have c14b1 : decide (4096 < (((x0_1.extract 0 (((rd_T24 l1 x6_1).f0) : Int).toNat) ++ ((rd_T24 l1 x6_1).f2)) ++ (x0_1.extract ((ji10) : Int).toNat x0_1.size)).size) = true := decide_eq_true (by omega)
             try (have c14b1x := c14b1; simp [-decide_eq_true_eq, -decide_eq_false_iff_not, c7b0, c8b0, c9b0, c11b0, c12b0, c13b0] at c14b1x)
             clear c14
             simp only [Option.some.injEq, Prod.mk.injEq] at H
             obtain ⟨rfl, rfl⟩ := H
             have p327 : 0 ≤ (x6_1 : Int) := of_decide_eq_true as_
             have q327 : x6_1 < (l1.length : Int) := of_decide_eq_true as_
             obtain ⟨ad327, e327, hx327_0, hx327_1, hx327_2⟩ := at_T24b HR1 HB x6_1 p327 q327
             cases e327
             replace p327 := eq_true p327
             replace q327 := eq_true q327
             go_wp2_with (first | ((with_reducible refine gate_dst (N := 7) rfl ?_); refine be_ (N := 7) (cs := #[.int .i64 0, .string (⟨#[]⟩ : ByteArray), .string (⟨#[]⟩ : ByteArray)]) (t := 24) (h := ?_); intro gb328 hg w15 hbox hb; have BK328 := Aside0.mk (hbox); have GW328 := gw_ HB hg; have GE328 := gw_ HB hg; replace HB := bs_ HB hb; clear hb hbox hg; obtain ⟨hcz16_0, hcz16_1, hcz16_2, hfz16_0, hfz16_1, hfz16_2⟩ := bc3_ BK328) | (go_at_call 24; (with_reducible refine (calamusref08_Fits.calls k1 x0_1 ((rd_T24 l1 x6_1).f0) ((rd_T24 l1 x6_1).f1) ((rd_T24 l1 x6_1).f2) true _ A5.out).mono ?_); rintro e w17 ⟨rfl, hb⟩; replace BK328 := Aside0.mk (blk_below (g := gb328) (o := .cells #[.int .i64 ((rd_T24 l1 x6_1).f0), .string ((rd_T24 l1 x6_1).f1), .string ((rd_T24 l1 x6_1).f2)] 24 (0, 0)) (bp_ BK328.out) hb); replace HB := bs_ HB hb; (try clear hb); (try clear hb2); (try clear hk); (try clear hi); obtain ⟨hcz18_0, hcz18_1, hcz18_2, hfz18_0, hfz18_1, hfz18_2⟩ := bc3_ BK328))
             repeat (go_quiet (first | ((with_reducible refine gate_dst (N := 7) rfl ?_); refine be_ (N := 7) (cs := #[.int .i64 0, .string (⟨#[]⟩ : ByteArray), .string (⟨#[]⟩ : ByteArray)]) (t := 24) (h := ?_); intro gb328 hg w15 hbox hb; have BK328 := Aside0.mk (hbox); have GW328 := gw_ HB hg; have GE328 := gw_ HB hg; replace HB := bs_ HB hb; clear hb hbox hg; obtain ⟨hcz16_0, hcz16_1, hcz16_2, hfz16_0, hfz16_1, hfz16_2⟩ := bc3_ BK328) | (go_at_call 24; (with_reducible refine (calamusref08_Fits.calls k1 x0_1 ((rd_T24 l1 x6_1).f0) ((rd_T24 l1 x6_1).f1) ((rd_T24 l1 x6_1).f2) true _ A5.out).mono ?_); rintro e w17 ⟨rfl, hb⟩; replace BK328 := Aside0.mk (blk_below (g := gb328) (o := .cells #[.int .i64 ((rd_T24 l1 x6_1).f0), .string ((rd_T24 l1 x6_1).f1), .string ((rd_T24 l1 x6_1).f2)] 24 (0, 0)) (bp_ BK328.out) hb); replace HB := bs_ HB hb; (try clear hb); (try clear hb2); (try clear hk); (try clear hi); obtain ⟨hcz18_0, hcz18_1, hcz18_2, hfz18_0, hfz18_1, hfz18_2⟩ := bc3_ BK328)); try go_wp2_with (first | ((with_reducible refine gate_dst (N := 7) rfl ?_); refine be_ (N := 7) (cs := #[.int .i64 0, .string (⟨#[]⟩ : ByteArray), .string (⟨#[]⟩ : ByteArray)]) (t := 24) (h := ?_); intro gb328 hg w15 hbox hb; have BK328 := Aside0.mk (hbox); have GW328 := gw_ HB hg; have GE328 := gw_ HB hg; replace HB := bs_ HB hb; clear hb hbox hg; obtain ⟨hcz16_0, hcz16_1, hcz16_2, hfz16_0, hfz16_1, hfz16_2⟩ := bc3_ BK328) | (go_at_call 24; (with_reducible refine (calamusref08_Fits.calls k1 x0_1 ((rd_T24 l1 x6_1).f0) ((rd_T24 l1 x6_1).f1) ((rd_T24 l1 x6_1).f2) true _ A5.out).mono ?_); rintro e w17 ⟨rfl, hb⟩; replace BK328 := Aside0.mk (blk_below (g := gb328) (o := .cells #[.int .i64 ((rd_T24 l1 x6_1).f0), .string ((rd_T24 l1 x6_1).f1), .string ((rd_T24 l1 x6_1).f2)] 24 (0, 0)) (bp_ BK328.out) hb); replace HB := bs_ HB hb; (try clear hb); (try clear hb2); (try clear hk); (try clear hi); obtain ⟨hcz18_0, hcz18_1, hcz18_2, hfz18_0, hfz18_1, hfz18_2⟩ := bc3_ BK328)))
             go_ret2
             exact ⟨by first | rfl | (simp [errW_none, errW_some] <;> rfl) | (simp only [← hji10]; first | rfl | (simp [errW_none, errW_some] <;> rfl)) | (simp [*, errW_none, errW_some] <;> rfl), hb_ HB⟩
            ·rw [if_neg c14] at H
             have c14b0 : decide (4096 < ((((x0_1.extract 0 (((rd_T24 l1 x6_1).f0) : Int).toNat) ++ ((rd_T24 l1 x6_1).f2)) ++ (x0_1.extract ((ji10) : Int).toNat x0_1.size)).size : Int)) = false := decide_eq_false c14
             try (have c14b0x := c14b0; simp [-decide_eq_true_eq, -decide_eq_false_iff_not, c7b0, c8b0, c9b0, c11b0, c12b0, c13b0] at c14b0x)
             have c14b1 : decide (4096 < (((x0_1.extract 0 (((rd_T24 l1 x6_1).f0) : Int).toNat) ++ ((rd_T24 l1 x6_1).f2)) ++ (x0_1.extract ((ji10) : Int).toNat x0_1.size)).size) = false := decide_eq_false (by omega)
             try (have c14b1x := c14b1; simp [-decide_eq_true_eq, -decide_eq_false_iff_not, c7b0, c8b0, c9b0, c11b0, c12b0, c13b0] at c14b1x)
             clear c14
             have H' := Aside0.mk H
             clear H
             have p327 : 0 ≤ (x6_1 : Int) := of_decide_eq_true as_
             have q327 : x6_1 < (l1.length : Int) := of_decide_eq_true as_
             obtain ⟨ad327, e327, hx327_0, hx327_1, hx327_2⟩ := at_T24b HR1 HB x6_1 p327 q327
             cases e327
             replace p327 := eq_true p327
             replace q327 := eq_true q327
             go_wp2_with (first | ((with_reducible refine gate_dst (N := 7) rfl ?_); refine be_ (N := 7) (cs := #[.int .i64 0, .string (⟨#[]⟩ : ByteArray), .string (⟨#[]⟩ : ByteArray)]) (t := 24) (h := ?_); intro gb328 hg w19 hbox hb; have BK328 := Aside0.mk (hbox); have GW328 := gw_ HB hg; have GE328 := gw_ HB hg; replace HB := bs_ HB hb; clear hb hbox hg; obtain ⟨hcz20_0, hcz20_1, hcz20_2, hfz20_0, hfz20_1, hfz20_2⟩ := bc3_ BK328) | (go_at_call 24; (with_reducible refine (calamusref08_Fits.calls k1 x0_1 ((rd_T24 l1 x6_1).f0) ((rd_T24 l1 x6_1).f1) ((rd_T24 l1 x6_1).f2) true _ A5.out).mono ?_); rintro e w21 ⟨rfl, hb⟩; replace BK328 := Aside0.mk (blk_below (g := gb328) (o := .cells #[.int .i64 ((rd_T24 l1 x6_1).f0), .string ((rd_T24 l1 x6_1).f1), .string ((rd_T24 l1 x6_1).f2)] 24 (0, 0)) (bp_ BK328.out) hb); replace HB := bs_ HB hb; (try clear hb); (try clear hb2); (try clear hk); (try clear hi); obtain ⟨hcz22_0, hcz22_1, hcz22_2, hfz22_0, hfz22_1, hfz22_2⟩ := bc3_ BK328))
             repeat (go_quiet (first | ((with_reducible refine gate_dst (N := 7) rfl ?_); refine be_ (N := 7) (cs := #[.int .i64 0, .string (⟨#[]⟩ : ByteArray), .string (⟨#[]⟩ : ByteArray)]) (t := 24) (h := ?_); intro gb328 hg w19 hbox hb; have BK328 := Aside0.mk (hbox); have GW328 := gw_ HB hg; have GE328 := gw_ HB hg; replace HB := bs_ HB hb; clear hb hbox hg; obtain ⟨hcz20_0, hcz20_1, hcz20_2, hfz20_0, hfz20_1, hfz20_2⟩ := bc3_ BK328) | (go_at_call 24; (with_reducible refine (calamusref08_Fits.calls k1 x0_1 ((rd_T24 l1 x6_1).f0) ((rd_T24 l1 x6_1).f1) ((rd_T24 l1 x6_1).f2) true _ A5.out).mono ?_); rintro e w21 ⟨rfl, hb⟩; replace BK328 := Aside0.mk (blk_below (g := gb328) (o := .cells #[.int .i64 ((rd_T24 l1 x6_1).f0), .string ((rd_T24 l1 x6_1).f1), .string ((rd_T24 l1 x6_1).f2)] 24 (0, 0)) (bp_ BK328.out) hb); replace HB := bs_ HB hb; (try clear hb); (try clear hb2); (try clear hk); (try clear hi); obtain ⟨hcz22_0, hcz22_1, hcz22_2, hfz22_0, hfz22_1, hfz22_2⟩ := bc3_ BK328)); try go_wp2_with (first | ((with_reducible refine gate_dst (N := 7) rfl ?_); refine be_ (N := 7) (cs := #[.int .i64 0, .string (⟨#[]⟩ : ByteArray), .string (⟨#[]⟩ : ByteArray)]) (t := 24) (h := ?_); intro gb328 hg w19 hbox hb; have BK328 := Aside0.mk (hbox); have GW328 := gw_ HB hg; have GE328 := gw_ HB hg; replace HB := bs_ HB hb; clear hb hbox hg; obtain ⟨hcz20_0, hcz20_1, hcz20_2, hfz20_0, hfz20_1, hfz20_2⟩ := bc3_ BK328) | (go_at_call 24; (with_reducible refine (calamusref08_Fits.calls k1 x0_1 ((rd_T24 l1 x6_1).f0) ((rd_T24 l1 x6_1).f1) ((rd_T24 l1 x6_1).f2) true _ A5.out).mono ?_); rintro e w21 ⟨rfl, hb⟩; replace BK328 := Aside0.mk (blk_below (g := gb328) (o := .cells #[.int .i64 ((rd_T24 l1 x6_1).f0), .string ((rd_T24 l1 x6_1).f1), .string ((rd_T24 l1 x6_1).f2)] 24 (0, 0)) (bp_ BK328.out) hb); replace HB := bs_ HB hb; (try clear hb); (try clear hb2); (try clear hk); (try clear hi); obtain ⟨hcz22_0, hcz22_1, hcz22_2, hfz22_0, hfz22_1, hfz22_2⟩ := bc3_ BK328)))
             go_roundg k1
             case measure => have := HK1.out; omega
             case rel => exact ⟨(((x0_1.extract 0 (((rd_T24 l1 x6_1).f0) : Int).toNat) ++ ((rd_T24 l1 x6_1).f2)) ++ (x0_1.extract ((ji10) : Int).toNat x0_1.size)), (wrap64 (x6_1 + 1)), (by first | rfl | (simp; done) | (simp only [← hji10] <;> (first | rfl | simp)) | (simp [*]; done)), es_, H', ⟨by have := HK1.out; omega⟩, ⟨hb_ HB⟩⟩
           ·rw [if_neg c13] at H
            exact absurd H (by simp)
          ·rw [if_neg c12] at H
           exact absurd H (by simp)
         ·rw [if_neg c11] at H
          exact absurd H (by simp)
        ·rw [if_neg c9] at H
         exact absurd H (by simp)
       ·rw [if_neg c8] at H
        exact absurd H (by simp)
      ·rw [if_neg c7] at H
       exact absurd H (by simp)
     ·replace c6 := Bool.eq_false_iff.mpr c6
      subst c6
      have H1 : (some ((⟨#[]⟩ : ByteArray), 1)) = some (r1, r2) := by rw [if_neg (show ¬ (false = true) by decide)] at H; exact H
      clear H
      have H := H1
      clear H1
      simp only [Option.some.injEq, Prod.mk.injEq] at H
      obtain ⟨rfl, rfl⟩ := H
      have p327 : 0 ≤ (x6_1 : Int) := of_decide_eq_true as_
      have q327 : x6_1 < (l1.length : Int) := of_decide_eq_true as_
      obtain ⟨ad327, e327, hx327_0, hx327_1, hx327_2⟩ := at_T24b HR1 HB x6_1 p327 q327
      cases e327
      replace p327 := eq_true p327
      replace q327 := eq_true q327
      go_wp2_with (first | ((with_reducible refine gate_dst (N := 7) rfl ?_); refine be_ (N := 7) (cs := #[.int .i64 0, .string (⟨#[]⟩ : ByteArray), .string (⟨#[]⟩ : ByteArray)]) (t := 24) (h := ?_); intro gb328 hg w23 hbox hb; have BK328 := Aside0.mk (hbox); have GW328 := gw_ HB hg; have GE328 := gw_ HB hg; replace HB := bs_ HB hb; clear hb hbox hg; obtain ⟨hcz24_0, hcz24_1, hcz24_2, hfz24_0, hfz24_1, hfz24_2⟩ := bc3_ BK328) | (go_at_call 24; (with_reducible refine (calamusref08_Fits.calls k1 x0_1 ((rd_T24 l1 x6_1).f0) ((rd_T24 l1 x6_1).f1) ((rd_T24 l1 x6_1).f2) false _ A5.out).mono ?_); rintro e w25 ⟨rfl, hb⟩; replace BK328 := Aside0.mk (blk_below (g := gb328) (o := .cells #[.int .i64 ((rd_T24 l1 x6_1).f0), .string ((rd_T24 l1 x6_1).f1), .string ((rd_T24 l1 x6_1).f2)] 24 (0, 0)) (bp_ BK328.out) hb); replace HB := bs_ HB hb; (try clear hb); (try clear hb2); (try clear hk); (try clear hi)))
      repeat (go_quiet (first | ((with_reducible refine gate_dst (N := 7) rfl ?_); refine be_ (N := 7) (cs := #[.int .i64 0, .string (⟨#[]⟩ : ByteArray), .string (⟨#[]⟩ : ByteArray)]) (t := 24) (h := ?_); intro gb328 hg w23 hbox hb; have BK328 := Aside0.mk (hbox); have GW328 := gw_ HB hg; have GE328 := gw_ HB hg; replace HB := bs_ HB hb; clear hb hbox hg; obtain ⟨hcz24_0, hcz24_1, hcz24_2, hfz24_0, hfz24_1, hfz24_2⟩ := bc3_ BK328) | (go_at_call 24; (with_reducible refine (calamusref08_Fits.calls k1 x0_1 ((rd_T24 l1 x6_1).f0) ((rd_T24 l1 x6_1).f1) ((rd_T24 l1 x6_1).f2) false _ A5.out).mono ?_); rintro e w25 ⟨rfl, hb⟩; replace BK328 := Aside0.mk (blk_below (g := gb328) (o := .cells #[.int .i64 ((rd_T24 l1 x6_1).f0), .string ((rd_T24 l1 x6_1).f1), .string ((rd_T24 l1 x6_1).f2)] 24 (0, 0)) (bp_ BK328.out) hb); replace HB := bs_ HB hb; (try clear hb); (try clear hb2); (try clear hk); (try clear hi))); try go_wp2_with (first | ((with_reducible refine gate_dst (N := 7) rfl ?_); refine be_ (N := 7) (cs := #[.int .i64 0, .string (⟨#[]⟩ : ByteArray), .string (⟨#[]⟩ : ByteArray)]) (t := 24) (h := ?_); intro gb328 hg w23 hbox hb; have BK328 := Aside0.mk (hbox); have GW328 := gw_ HB hg; have GE328 := gw_ HB hg; replace HB := bs_ HB hb; clear hb hbox hg; obtain ⟨hcz24_0, hcz24_1, hcz24_2, hfz24_0, hfz24_1, hfz24_2⟩ := bc3_ BK328) | (go_at_call 24; (with_reducible refine (calamusref08_Fits.calls k1 x0_1 ((rd_T24 l1 x6_1).f0) ((rd_T24 l1 x6_1).f1) ((rd_T24 l1 x6_1).f2) false _ A5.out).mono ?_); rintro e w25 ⟨rfl, hb⟩; replace BK328 := Aside0.mk (blk_below (g := gb328) (o := .cells #[.int .i64 ((rd_T24 l1 x6_1).f0), .string ((rd_T24 l1 x6_1).f1), .string ((rd_T24 l1 x6_1).f2)] 24 (0, 0)) (bp_ BK328.out) hb); replace HB := bs_ HB hb; (try clear hb); (try clear hb2); (try clear hk); (try clear hi))))
      go_ret2
      exact ⟨er_, hb_ HB⟩
    ·rw [if_neg c4] at H
     exact absurd H (by simp)
   ·rw [if_neg c3] at H
    have c3b0 : decide (x6_1 < (l1.length : Int)) = false := decide_eq_false c3
    clear c3
    simp only [Option.some.injEq, Prod.mk.injEq] at H
    obtain ⟨rfl, rfl⟩ := H
    go_wp2
    repeat (go_quiet (fail); try go_wp2)
    go_ret2
    exact ⟨er_, hb_ HB⟩

/-! ### calamusref11_has: function 82 -/
def calamusref11_has.f (l0_0 : List (S69)) (a0_1 : Int) (a1 : Int) : Option (Bool) := if a1 ≥ 0 then (some (decide (a1 < (l0_0.length : Int)))) else (some false)
set_option maxHeartbeats 8000000 in
set_option maxRecDepth 100000 in
theorem calamusref11_has.calls (A0_0 : Option Addr) (c0_0 : Nat) (l0_0 : List (S69)) (a0_1 : Int) (a1 : Int) (r : Bool) (w : World) (hr0_0 : Kd.C k69 w A0_0 l0_0.length l0_0) (hc0_0 : l0_0.length ≤ c0_0) (h : calamusref11_has.f l0_0 a0_1 a1 = some r) :
  Calls Try.prog 82 #[.agg #[.slice A0_0 l0_0.length c0_0, .int .i64 a0_1], .int .i64 a1] w fun e w' => e = .returned (.bool r) ∧ Below w.heap.size w w' := by
 have hu46 := Try.underlying46
 have HR0_0 := Aside0.mk hr0_0
 have HC0_0 := Aside0.mk hc0_0
 clear hr0_0 hc0_0
 have HB := Aside0.mk (Below.refl w.heap.size w)
 have H : (if a1 ≥ 0 then (some (decide (a1 < (l0_0.length : Int)))) else (some false)) = some r := h
 clear h
 by_cases c3 : a1 ≥ 0
 ·rw [if_pos c3] at H
  have c3b0 : decide (0 ≤ a1) = true := decide_eq_true c3
  clear c3
  obtain rfl := Option.some.inj H
  go_enter Try.func82, Try.ntmps82
  go_wp2_with (first | ((with_reducible refine gate_dst (N := 2) rfl ?_); (try (refine gate_guard (by rfl) ?_; dsimp only)); refine be_ (N := 2) (cs := #[.slice A0_0 l0_0.length c0_0, .int .i64 a0_1]) (t := 46) (h := ?_); intro gb330 hg w4 hbox hb; have BK330 := Aside0.mk (hbox); have GW330 := gw_ HB hg; have GE330 := gw_ HB hg; replace HB := bs_ HB hb; clear hb hbox hg; obtain ⟨hcz5_0, hcz5_1, hfz5_0, hfz5_1⟩ := bc2_ BK330))
  go_ret
  exact ⟨er_, hb_ HB⟩
 ·rw [if_neg c3] at H
  have c3b0 : decide (0 ≤ a1) = false := decide_eq_false c3
  clear c3
  obtain rfl := Option.some.inj H
  go_enter Try.func82, Try.ntmps82
  go_wp2_with (first | ((with_reducible refine gate_dst (N := 2) rfl ?_); (try (refine gate_guard (by rfl) ?_; dsimp only)); refine be_ (N := 2) (cs := #[.slice A0_0 l0_0.length c0_0, .int .i64 a0_1]) (t := 46) (h := ?_); intro gb330 hg w6 hbox hb; have BK330 := Aside0.mk (hbox); have GW330 := gw_ HB hg; have GE330 := gw_ HB hg; replace HB := bs_ HB hb; clear hb hbox hg))
  go_ret
  exact ⟨er_, hb_ HB⟩

end Go.Proofs.Ytkiokimpblimcaa.PTreeTexts
