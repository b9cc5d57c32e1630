/- Of the law calamus/calamuslaw09.BatchPlaces: each function as a plain Lean function, with a proof that the call comes to it; the row. By wip/tpl/own_print.py. Conditions: none but the row's own. -/
import Derived.Test.YtkiokimpblimcaaOBatchPlacesx0
import Derived.Test.YtkiokimpblimcaaOBatchPlacesx2
import Derived.Test.YtkiokimpblimcaaOBatchPlacesx4
import Derived.Test.YtkiokimpblimcaaOBatchPlacesx5
namespace Go.Proofs.Ytkiokimpblimcaa.PBatchPlaces
open Go.RowKit Go.Proofs.YtkiokimpblimcaaW.PrintWords Go.Proofs.YtkiokimpblimcaaW.PrintLast Go.Proofs.YtkiokimpblimcaaW.PrintMore
attribute [local go_sem] max2_int min2_int max_two min_two max_three min_three max_four min_four   -- for this text's walks alone
set_option linter.unusedVariables false
set_option linter.unusedSimpArgs false

/-! ### calamuslaw09_BatchPlaces: function 7 -/
mutual
def calamuslaw09_BatchPlaces.j0 : Nat → ByteArray → List (S24) → Int → Int → Bool → Option (Bool)
 | 0, _, _, _, _, _ => none
 | k + 1, x0, x1, x2, x3, x43 => if x43 = true then ((calamuslaw09_lives.f k).bind fun t170 => (some t170)) else ((batch_Do.f k x0 x1).bind fun bt171 => (if bt171.2 = 0 then ((batch_Shift.f k x2 x1).bind fun t174 => ((batch_Shift.f k x3 x1).bind fun t175 => (if t174 < 0 then (calamuslaw09_BatchPlaces.j1 k x0 x1 x2 bt171.1 t174 true) else (if t174 > (bt171.1.size : Int) then (calamuslaw09_BatchPlaces.j1 k x0 x1 x2 bt171.1 t174 true) else (calamuslaw09_BatchPlaces.j1 k x0 x1 x2 bt171.1 t174 (decide (t174 > t175))))))) else ((calamuslaw09_lives.f k).bind fun t173 => (some t173))))
def calamuslaw09_BatchPlaces.j1 : Nat → ByteArray → List (S24) → Int → ByteArray → Int → Bool → Option (Bool)
 | 0, _, _, _, _, _, _ => none
 | k + 1, x0, x1, x2, x9, x11, x72 => if x72 = true then (some false) else (calamuslaw09_BatchPlaces.l0 k x0 x1 x2 x9 x11 0)
def calamuslaw09_BatchPlaces.l0 : Nat → ByteArray → List (S24) → Int → ByteArray → Int → Int → Option (Bool)
 | 0, _, _, _, _, _, _ => none
 | k + 1, x0, x1, x2, x9, x11, x13 => if x13 < (x1.length : Int) then (if 0 ≤ x13 then (if x2 ≥ ((rd_T24 x1 x13).f0) then (if x2 < (wrap64 (((rd_T24 x1 x13).f0) + (((rd_T24 x1 x13).f1).size : Int))) then ((calamuslaw09_lives.f k).bind fun t179 => (some t179)) else (calamuslaw09_BatchPlaces.l0 k x0 x1 x2 x9 x11 (wrap64 (x13 + 1)))) else (calamuslaw09_BatchPlaces.l0 k x0 x1 x2 x9 x11 (wrap64 (x13 + 1)))) else (none)) else (if x11 < (x9.size : Int) then (if 0 ≤ x11 then (if 0 ≤ x2 then (if x2 < (x0.size : Int) then (if (bt x9 x11) = (bt x0 x2) then ((calamuslaw09_lives.f k).bind fun t180 => (some t180)) else (some false)) else (none)) else (none)) else (none)) else (some false))
end
def calamuslaw09_BatchPlaces.f (k : Nat) (a0 : ByteArray) (l1 : List (S24)) (a2 : Int) (a3 : Int) : Option (Bool) := (calamuslaw09_short.f k a0 l1).bind fun t169 => (if t169 = true then (if (a0.size : Int) > 2000 then (calamuslaw09_BatchPlaces.j0 k a0 l1 a2 a3 true) else (if a2 < 0 then (calamuslaw09_BatchPlaces.j0 k a0 l1 a2 a3 true) else (if a2 ≥ (a0.size : Int) then (calamuslaw09_BatchPlaces.j0 k a0 l1 a2 a3 true) else (if a3 < a2 then (calamuslaw09_BatchPlaces.j0 k a0 l1 a2 a3 true) else (calamuslaw09_BatchPlaces.j0 k a0 l1 a2 a3 (decide (a3 ≥ (a0.size : Int)))))))) else (calamuslaw09_BatchPlaces.j0 k a0 l1 a2 a3 true))
theorem calamuslaw09_BatchPlaces.mono_l : ∀ k, (∀ y0 y1 y2 y3 y4, LeO (calamuslaw09_BatchPlaces.j0 k y0 y1 y2 y3 y4) (calamuslaw09_BatchPlaces.j0 (k + 1) y0 y1 y2 y3 y4)) ∧ (∀ y0 y1 y2 y3 y4 y5, LeO (calamuslaw09_BatchPlaces.j1 k y0 y1 y2 y3 y4 y5) (calamuslaw09_BatchPlaces.j1 (k + 1) y0 y1 y2 y3 y4 y5)) ∧ (∀ y0 y1 y2 y3 y4 y5, LeO (calamuslaw09_BatchPlaces.l0 k y0 y1 y2 y3 y4 y5) (calamuslaw09_BatchPlaces.l0 (k + 1) y0 y1 y2 y3 y4 y5))
 | 0 => ⟨fun _ _ _ _ _ r h => by simp [calamuslaw09_BatchPlaces.j0] at h, fun _ _ _ _ _ _ r h => by simp [calamuslaw09_BatchPlaces.j1] at h, fun _ _ _ _ _ _ r h => by simp [calamuslaw09_BatchPlaces.l0] at h⟩
 | k + 1 => by
  obtain ⟨ih0, ih1, ih2⟩ := calamuslaw09_BatchPlaces.mono_l k
  refine ⟨?_, ?_, ?_⟩
  ·intro y0 y1 y2 y3 y4
   unfold calamuslaw09_BatchPlaces.j0
   repeat' first
   | (with_reducible exact ih0 _ _ _ _ _)
   | (with_reducible exact ih1 _ _ _ _ _ _)
   | (with_reducible exact ih2 _ _ _ _ _ _)
   | (with_reducible exact batch_Do.mono _ _ _)
   | (with_reducible exact batch_Shift.mono _ _ _)
   | (with_reducible exact calamuslaw09_lives.mono _)
   | (with_reducible exact calamuslaw09_short.mono _ _ _)
   | (with_reducible exact LeO.refl _)
   | (with_reducible exact LeO.none _)
   | (with_reducible refine LeO.ite ?_ ?_)
   | (with_reducible refine LeO.bind ?_ (fun _ => ?_))
   | exact ih0 _ _ _ _ _
   | exact ih1 _ _ _ _ _ _
   | exact ih2 _ _ _ _ _ _
   | exact batch_Do.mono _ _ _
   | exact batch_Shift.mono _ _ _
   | exact calamuslaw09_lives.mono _
   | exact calamuslaw09_short.mono _ _ _
   | exact LeO.none _
   | refine LeO.ite ?_ ?_
   | refine LeO.bind ?_ (fun _ => ?_)
  ·intro y0 y1 y2 y3 y4 y5
   unfold calamuslaw09_BatchPlaces.j1
   repeat' first
   | (with_reducible exact ih0 _ _ _ _ _)
   | (with_reducible exact ih1 _ _ _ _ _ _)
   | (with_reducible exact ih2 _ _ _ _ _ _)
   | (with_reducible exact batch_Do.mono _ _ _)
   | (with_reducible exact batch_Shift.mono _ _ _)
   | (with_reducible exact calamuslaw09_lives.mono _)
   | (with_reducible exact calamuslaw09_short.mono _ _ _)
   | (with_reducible exact LeO.refl _)
   | (with_reducible exact LeO.none _)
   | (with_reducible refine LeO.ite ?_ ?_)
   | (with_reducible refine LeO.bind ?_ (fun _ => ?_))
   | exact ih0 _ _ _ _ _
   | exact ih1 _ _ _ _ _ _
   | exact ih2 _ _ _ _ _ _
   | exact batch_Do.mono _ _ _
   | exact batch_Shift.mono _ _ _
   | exact calamuslaw09_lives.mono _
   | exact calamuslaw09_short.mono _ _ _
   | exact LeO.none _
   | refine LeO.ite ?_ ?_
   | refine LeO.bind ?_ (fun _ => ?_)
  ·intro y0 y1 y2 y3 y4 y5
   unfold calamuslaw09_BatchPlaces.l0
   repeat' first
   | (with_reducible exact ih0 _ _ _ _ _)
   | (with_reducible exact ih1 _ _ _ _ _ _)
   | (with_reducible exact ih2 _ _ _ _ _ _)
   | (with_reducible exact batch_Do.mono _ _ _)
   | (with_reducible exact batch_Shift.mono _ _ _)
   | (with_reducible exact calamuslaw09_lives.mono _)
   | (with_reducible exact calamuslaw09_short.mono _ _ _)
   | (with_reducible exact LeO.refl _)
   | (with_reducible exact LeO.none _)
   | (with_reducible refine LeO.ite ?_ ?_)
   | (with_reducible refine LeO.bind ?_ (fun _ => ?_))
   | exact ih0 _ _ _ _ _
   | exact ih1 _ _ _ _ _ _
   | exact ih2 _ _ _ _ _ _
   | exact batch_Do.mono _ _ _
   | exact batch_Shift.mono _ _ _
   | exact calamuslaw09_lives.mono _
   | exact calamuslaw09_short.mono _ _ _
   | exact LeO.none _
   | refine LeO.ite ?_ ?_
   | refine LeO.bind ?_ (fun _ => ?_)
theorem calamuslaw09_BatchPlaces.mono : ∀ a0 a1 a2 a3 k, LeO (calamuslaw09_BatchPlaces.f k a0 a1 a2 a3) (calamuslaw09_BatchPlaces.f (k + 1) a0 a1 a2 a3) := by
 intro a0 a1 a2 a3 k
 obtain ⟨ih0, ih1, ih2⟩ := calamuslaw09_BatchPlaces.mono_l k
 unfold calamuslaw09_BatchPlaces.f
 repeat' first
   | (with_reducible exact ih0 _ _ _ _ _)
   | (with_reducible exact ih1 _ _ _ _ _ _)
   | (with_reducible exact ih2 _ _ _ _ _ _)
   | (with_reducible exact batch_Do.mono _ _ _)
   | (with_reducible exact batch_Shift.mono _ _ _)
   | (with_reducible exact calamuslaw09_lives.mono _)
   | (with_reducible exact calamuslaw09_short.mono _ _ _)
   | (with_reducible exact LeO.refl _)
   | (with_reducible exact LeO.none _)
   | (with_reducible refine LeO.ite ?_ ?_)
   | (with_reducible refine LeO.bind ?_ (fun _ => ?_))
   | exact ih0 _ _ _ _ _
   | exact ih1 _ _ _ _ _ _
   | exact ih2 _ _ _ _ _ _
   | exact batch_Do.mono _ _ _
   | exact batch_Shift.mono _ _ _
   | exact calamuslaw09_lives.mono _
   | exact calamuslaw09_short.mono _ _ _
   | exact LeO.none _
   | refine LeO.ite ?_ ?_
   | refine LeO.bind ?_ (fun _ => ?_)
def calamuslaw09_BatchPlaces.T12 : Bool × List (List Nat × List Nat) := (true, [([], []), ([], []), ([], []), ([1, 2], [1, 2]), ([3], [3]), ([4], [4]), ([0, 5], [0, 5]), ([6], [6]), ([7], [7]), ([7], [7]), ([7], [7]), ([9, 10, 7], [7, 9, 10]), ([11, 7], [7, 11]), ([12, 7], [7, 12]), ([7], [7]), ([7], [7]), ([14, 15, 7], [7, 14, 15]), ([16, 7], [7, 16]), ([17, 7], [7, 17]), ([18, 7], [7, 18]), ([13, 19, 7], [7, 13, 19]), ([8, 20, 7], [7, 8, 20]), ([7, 21], [7, 21])])
def calamuslaw09_BatchPlaces.B12 : List Nat := [0, 0, 0, 6, 14, 30, 63, 127, 255, 255, 255, 1791, 3839, 7935, 255, 255, 49407, 114943, 246015, 508159, 1048319, 2097151, 4194303]
theorem calamuslaw09_BatchPlaces.tab12 : rtab .any (opsOf Try.f7 12) = calamuslaw09_BatchPlaces.T12 := by kernel_rfl
theorem calamuslaw09_BatchPlaces.bits12 : waitsOk calamuslaw09_BatchPlaces.T12.2 calamuslaw09_BatchPlaces.B12 = true := by kernel_rfl
def calamuslaw09_BatchPlaces.T14 : Bool × List (List Nat × List Nat) := (true, [([], []), ([], []), ([1], [1]), ([0, 2], [0, 2]), ([3], [3]), ([4], [4]), ([4], [4]), ([5, 6, 4], [4, 5, 6]), ([4], [4]), ([4], [4]), ([8, 9, 4], [4, 8, 9]), ([7, 10, 4], [4, 7, 10]), ([4, 11], [4, 11]), ([12, 4], [12]), ([13, 13], [13]), ([13, 14], [13, 14]), ([15, 14, 0, 1, 2, 3, 4, 5, 6, 7, 8, 9, 10, 11, 12, 13, 14, 15], [15])])
def calamuslaw09_BatchPlaces.B14 : List Nat := [0, 0, 2, 7, 15, 31, 31, 127, 31, 31, 799, 2047, 4095, 8191, 16383, 32767, 65535]
theorem calamuslaw09_BatchPlaces.tab14 : rtab .any (opsOf Try.f7 14) = calamuslaw09_BatchPlaces.T14 := by kernel_rfl
theorem calamuslaw09_BatchPlaces.bits14 : waitsOk calamuslaw09_BatchPlaces.T14.2 calamuslaw09_BatchPlaces.B14 = true := by kernel_rfl
set_option maxHeartbeats 8000000 in
set_option maxRecDepth 100000 in
theorem calamuslaw09_BatchPlaces.calls (k : Nat) (a0 : ByteArray) (A1 : Option Addr) (c1 : Nat) (l1 : List (S24)) (a2 : Int) (a3 : Int) (r : Bool) (w : World) (hr1 : Kd.C k24 w A1 l1.length l1) (hc1 : l1.length ≤ c1) (h : calamuslaw09_BatchPlaces.f k a0 l1 a2 a3 = some r) (hr_ : r = true := by rfl) :
  Calls Try.prog 7 #[.string a0, .slice A1 l1.length c1, .int .i64 a2, .int .i64 a3] w fun e w' => e = .returned (.bool r) ∧ Below w.heap.size w w' := by
 have HR1 := Aside0.mk hr1
 have HC1 := Aside0.mk hc1
 clear hr1 hc1
 have HB := Aside0.mk (Below.refl w.heap.size w)
 have H : ((calamuslaw09_short.f k a0 l1).bind fun t169 => (if t169 = true then (if (a0.size : Int) > 2000 then (calamuslaw09_BatchPlaces.j0 k a0 l1 a2 a3 true) else (if a2 < 0 then (calamuslaw09_BatchPlaces.j0 k a0 l1 a2 a3 true) else (if a2 ≥ (a0.size : Int) then (calamuslaw09_BatchPlaces.j0 k a0 l1 a2 a3 true) else (if a3 < a2 then (calamuslaw09_BatchPlaces.j0 k a0 l1 a2 a3 true) else (calamuslaw09_BatchPlaces.j0 k a0 l1 a2 a3 (decide (a3 ≥ (a0.size : Int)))))))) else (calamuslaw09_BatchPlaces.j0 k a0 l1 a2 a3 true))) = some r := h
 clear h
 have HC5 := Aside0.mk H
 clear H
 go_enter Try.func7, Try.ntmps7
 go_upto_region 1 with (fail)
 go_cut [43] (fun v43 wc => ∃ (kq : Nat) (x43_4 : Bool), v43 = .bool x43_4 ∧ Aside0 (calamuslaw09_BatchPlaces.j0 kq a0 l1 a2 a3 x43_4 = some r) ∧ Aside0 (kq ≤ k) ∧ Aside0 (Below w.heap.size w wc))
 case first =>
  have H := HC5.out
  clear HC5
  replace H := Option.bind_eq_some_iff.mp H
  obtain ⟨t169, A60, H⟩ := H
  replace H : (if t169 = true then (if (a0.size : Int) > 2000 then (calamuslaw09_BatchPlaces.j0 k a0 l1 a2 a3 true) else (if a2 < 0 then (calamuslaw09_BatchPlaces.j0 k a0 l1 a2 a3 true) else (if a2 ≥ (a0.size : Int) then (calamuslaw09_BatchPlaces.j0 k a0 l1 a2 a3 true) else (if a3 < a2 then (calamuslaw09_BatchPlaces.j0 k a0 l1 a2 a3 true) else (calamuslaw09_BatchPlaces.j0 k a0 l1 a2 a3 (decide (a3 ≥ (a0.size : Int)))))))) else (calamuslaw09_BatchPlaces.j0 k a0 l1 a2 a3 true)) = some r := H
  have A6 := Aside0.mk A60
  clear A60
  by_cases c7 : t169 = true
  ·subst c7
   have H1 : (if (a0.size : Int) > 2000 then (calamuslaw09_BatchPlaces.j0 k a0 l1 a2 a3 true) else (if a2 < 0 then (calamuslaw09_BatchPlaces.j0 k a0 l1 a2 a3 true) else (if a2 ≥ (a0.size : Int) then (calamuslaw09_BatchPlaces.j0 k a0 l1 a2 a3 true) else (if a3 < a2 then (calamuslaw09_BatchPlaces.j0 k a0 l1 a2 a3 true) else (calamuslaw09_BatchPlaces.j0 k a0 l1 a2 a3 (decide (a3 ≥ (a0.size : Int)))))))) = some r := by rw [if_pos rfl] at H; exact H
   clear H
   have H := H1
   clear H1
   by_cases c8 : (a0.size : Int) > 2000
   ·rw [if_pos c8] at H
    have c8b0 : decide (2000 < (a0.size : Int)) = true := decide_eq_true c8
    have c8b1 : decide (2000 < a0.size) = true := decide_eq_true (by omega)
    clear c8
    (first | rw [c8b0] | (simp only [i64_w, i32_w]; rw [c8b0]) | skip)
    have H' := Aside0.mk H
    clear H
    go_wp2_with (first | ((with_reducible refine gate_callee (f := 29) rfl ?_); refine ge_ (some 16) rfl rfl Try.func29 (by kernel_rfl) rfl #[.string a0, .slice A1 l1.length c1] rfl (h := ?_); (with_reducible refine (calamuslaw09_short.calls k a0 _ _ l1 true _ ?side1 ?side2 A6.out).mono ?_); (case side1 => exact cw_ (Kd.C_below HR1.out HB.out)); (case side2 => exact HC1.out); rintro e w' ⟨rfl, ⟨nd, rfl⟩⟩; refine ⟨_, rfl, ?_⟩))
    go_meet
    case rel => exact ⟨_, (true), es_, H', ⟨by first | omega | exact Nat.le_refl _⟩, ⟨hb_ HB⟩⟩
   ·rw [if_neg c8] at H
    have c8b0 : decide (2000 < (a0.size : Int)) = false := decide_eq_false c8
    have c8b1 : decide (2000 < a0.size) = false := decide_eq_false (by omega)
    clear c8
    (first | rw [c8b0] | (simp only [i64_w, i32_w]; rw [c8b0]) | skip)
    by_cases c9 : a2 < 0
    ·rw [if_pos c9] at H
     have c9b0 : decide (a2 < 0) = true := decide_eq_true c9
     clear c9
     have H' := Aside0.mk H
     clear H
     go_wp2_with (first | ((with_reducible refine gate_callee (f := 29) rfl ?_); refine ge_ (some 16) rfl rfl Try.func29 (by kernel_rfl) rfl #[.string a0, .slice A1 l1.length c1] rfl (h := ?_); (with_reducible refine (calamuslaw09_short.calls k a0 _ _ l1 true _ ?side1 ?side2 A6.out).mono ?_); (case side1 => exact cw_ (Kd.C_below HR1.out HB.out)); (case side2 => exact HC1.out); rintro e w' ⟨rfl, ⟨nd, rfl⟩⟩; refine ⟨_, rfl, ?_⟩))
     go_meet
     case rel => exact ⟨_, (true), es_, H', ⟨by first | omega | exact Nat.le_refl _⟩, ⟨hb_ HB⟩⟩
    ·rw [if_neg c9] at H
     have c9b0 : decide (a2 < 0) = false := decide_eq_false c9
     clear c9
     by_cases c10 : a2 ≥ (a0.size : Int)
     ·rw [if_pos c10] at H
      have c10b0 : decide ((a0.size : Int) ≤ a2) = true := decide_eq_true c10
      clear c10
      have H' := Aside0.mk H
      clear H
      go_wp2_with (first | ((with_reducible refine gate_callee (f := 29) rfl ?_); refine ge_ (some 16) rfl rfl Try.func29 (by kernel_rfl) rfl #[.string a0, .slice A1 l1.length c1] rfl (h := ?_); (with_reducible refine (calamuslaw09_short.calls k a0 _ _ l1 true _ ?side1 ?side2 A6.out).mono ?_); (case side1 => exact cw_ (Kd.C_below HR1.out HB.out)); (case side2 => exact HC1.out); rintro e w' ⟨rfl, ⟨nd, rfl⟩⟩; refine ⟨_, rfl, ?_⟩))
      go_meet
      case rel => exact ⟨_, (true), es_, H', ⟨by first | omega | exact Nat.le_refl _⟩, ⟨hb_ HB⟩⟩
     ·rw [if_neg c10] at H
      have c10b0 : decide ((a0.size : Int) ≤ a2) = false := decide_eq_false c10
      clear c10
      by_cases c11 : a3 < a2
      ·rw [if_pos c11] at H
       have c11b0 : decide (a3 < a2) = true := decide_eq_true c11
       clear c11
       have H' := Aside0.mk H
       clear H
       go_wp2_with (first | ((with_reducible refine gate_callee (f := 29) rfl ?_); refine ge_ (some 16) rfl rfl Try.func29 (by kernel_rfl) rfl #[.string a0, .slice A1 l1.length c1] rfl (h := ?_); (with_reducible refine (calamuslaw09_short.calls k a0 _ _ l1 true _ ?side1 ?side2 A6.out).mono ?_); (case side1 => exact cw_ (Kd.C_below HR1.out HB.out)); (case side2 => exact HC1.out); rintro e w' ⟨rfl, ⟨nd, rfl⟩⟩; refine ⟨_, rfl, ?_⟩))
       go_meet
       case rel => exact ⟨_, (true), es_, H', ⟨by first | omega | exact Nat.le_refl _⟩, ⟨hb_ HB⟩⟩
      ·rw [if_neg c11] at H
       have c11b0 : decide (a3 < a2) = false := decide_eq_false c11
       clear c11
       have H' := Aside0.mk H
       clear H
       go_wp2_with (first | ((with_reducible refine gate_callee (f := 29) rfl ?_); refine ge_ (some 16) rfl rfl Try.func29 (by kernel_rfl) rfl #[.string a0, .slice A1 l1.length c1] rfl (h := ?_); (with_reducible refine (calamuslaw09_short.calls k a0 _ _ l1 true _ ?side1 ?side2 A6.out).mono ?_); (case side1 => exact cw_ (Kd.C_below HR1.out HB.out)); (case side2 => exact HC1.out); rintro e w' ⟨rfl, ⟨nd, rfl⟩⟩; refine ⟨_, rfl, ?_⟩))
       go_meet
       case rel => exact ⟨_, (decide (a3 ≥ (a0.size : Int))), es_, H', ⟨by first | omega | exact Nat.le_refl _⟩, ⟨hb_ HB⟩⟩
  ·replace c7 := Bool.eq_false_iff.mpr c7
   subst c7
   have H1 : (calamuslaw09_BatchPlaces.j0 k a0 l1 a2 a3 true) = some r := by rw [if_neg (show ¬ (false = true) by decide)] at H; exact H
   clear H
   have H := H1
   clear H1
   have H' := Aside0.mk H
   clear H
   go_wp2_with (first | ((with_reducible refine gate_callee (f := 29) rfl ?_); refine ge_ (some 16) rfl rfl Try.func29 (by kernel_rfl) rfl #[.string a0, .slice A1 l1.length c1] rfl (h := ?_); (with_reducible refine (calamuslaw09_short.calls k a0 _ _ l1 false _ ?side1 ?side2 A6.out).mono ?_); (case side1 => exact cw_ (Kd.C_below HR1.out HB.out)); (case side2 => exact HC1.out); rintro e w' ⟨rfl, ⟨nd, rfl⟩⟩; refine ⟨_, rfl, ?_⟩))
   go_meet
   case rel => exact ⟨_, (true), es_, H', ⟨by first | omega | exact Nat.le_refl _⟩, ⟨hb_ HB⟩⟩
 case rest =>
  clear HC5
  obtain ⟨kq, x43_4, rfl, HA, HJ4, HB⟩ := hcut
  cases kq with
  | zero => exact absurd HA.out (by simp [calamuslaw09_BatchPlaces.j0])
  | succ kj4 =>
   have H := HA.out
   clear HA
   simp only [calamuslaw09_BatchPlaces.j0] at H
   by_cases c12 : x43_4 = true
   ·subst c12
    have H1 : ((calamuslaw09_lives.f kj4).bind fun t170 => (some t170)) = some r := by rw [if_pos rfl] at H; exact H
    clear H
    have H := H1
    clear H1
    replace H := Option.bind_eq_some_iff.mp H
    obtain ⟨t170, A130, H⟩ := H
    replace H : (some t170) = some r := H
    have A13 := Aside0.mk A130
    clear A130
    obtain rfl := Option.some.inj H
    go_wp2_with (first | ((with_reducible refine gate_callee (f := 30) rfl ?_); refine ge_ (some 44) rfl rfl Try.func30 (by kernel_rfl) rfl #[] rfl (h := ?_); (with_reducible refine (calamuslaw09_lives.calls kj4  t170 _ A13.out).mono ?_); rintro e w14 ⟨rfl, hb⟩; refine ⟨_, rfl, ?_⟩; replace HB := bs_ HB hb; (try clear hb); (try clear hb2); (try clear hk); (try clear hi)))
    go_ret
    exact ⟨er_, hb_ HB⟩
   ·replace c12 := Bool.eq_false_iff.mpr c12
    subst c12
    have H1 : ((batch_Do.f kj4 a0 l1).bind fun bt171 => (if bt171.2 = 0 then ((batch_Shift.f kj4 a2 l1).bind fun t174 => ((batch_Shift.f kj4 a3 l1).bind fun t175 => (if t174 < 0 then (calamuslaw09_BatchPlaces.j1 kj4 a0 l1 a2 bt171.1 t174 true) else (if t174 > (bt171.1.size : Int) then (calamuslaw09_BatchPlaces.j1 kj4 a0 l1 a2 bt171.1 t174 true) else (calamuslaw09_BatchPlaces.j1 kj4 a0 l1 a2 bt171.1 t174 (decide (t174 > t175))))))) else ((calamuslaw09_lives.f kj4).bind fun t173 => (some t173)))) = some r := by rw [if_neg (show ¬ (false = true) by decide)] at H; exact H
    clear H
    have H := H1
    clear H1
    replace H := Option.bind_eq_some_iff.mp H
    obtain ⟨⟨t171, t172⟩, A150, H⟩ := H
    replace H : (if t172 = 0 then ((batch_Shift.f kj4 a2 l1).bind fun t174 => ((batch_Shift.f kj4 a3 l1).bind fun t175 => (if t174 < 0 then (calamuslaw09_BatchPlaces.j1 kj4 a0 l1 a2 t171 t174 true) else (if t174 > (t171.size : Int) then (calamuslaw09_BatchPlaces.j1 kj4 a0 l1 a2 t171 t174 true) else (calamuslaw09_BatchPlaces.j1 kj4 a0 l1 a2 t171 t174 (decide (t174 > t175))))))) else ((calamuslaw09_lives.f kj4).bind fun t173 => (some t173))) = some r := H
    have A15 := Aside0.mk A150
    clear A150
    by_cases c16 : t172 = 0
    ·rw [if_pos c16] at H
     have c16b0 : (t172 == 0) = true := beq_iff_eq.mpr c16
     have c16b1 : (t172 != 0) = false := bne_eq_false_iff_eq.mpr c16
     clear c16
     replace H := Option.bind_eq_some_iff.mp H
     obtain ⟨t174, A170, H⟩ := H
     replace H : ((batch_Shift.f kj4 a3 l1).bind fun t175 => (if t174 < 0 then (calamuslaw09_BatchPlaces.j1 kj4 a0 l1 a2 t171 t174 true) else (if t174 > (t171.size : Int) then (calamuslaw09_BatchPlaces.j1 kj4 a0 l1 a2 t171 t174 true) else (calamuslaw09_BatchPlaces.j1 kj4 a0 l1 a2 t171 t174 (decide (t174 > t175)))))) = some r := H
     have A17 := Aside0.mk A170
     clear A170
     replace H := Option.bind_eq_some_iff.mp H
     obtain ⟨t175, A180, H⟩ := H
     replace H : (if t174 < 0 then (calamuslaw09_BatchPlaces.j1 kj4 a0 l1 a2 t171 t174 true) else (if t174 > (t171.size : Int) then (calamuslaw09_BatchPlaces.j1 kj4 a0 l1 a2 t171 t174 true) else (calamuslaw09_BatchPlaces.j1 kj4 a0 l1 a2 t171 t174 (decide (t174 > t175))))) = some r := H
     have A18 := Aside0.mk A180
     clear A180
     have HC19 := Aside0.mk H
     clear H
     go_upto_region 7 with (first | ((with_reducible refine gate_callee (f := 31) rfl ?_); refine ge_ (some 48) rfl rfl Try.func31 (by kernel_rfl) rfl #[.string a0, .slice A1 l1.length c1] rfl (h := ?_); (with_reducible refine (batch_Do.calls kj4 a0 _ _ l1 t171 t172 _ ?side1 ?side2 A15.out).mono ?_); (case side1 => exact cw_ (Kd.C_below HR1.out HB.out)); (case side2 => exact HC1.out); rintro e w20 ⟨rfl, hb⟩; refine ⟨_, rfl, ?_⟩; replace HB := bs_ HB hb; (try clear hb); (try clear hb2); (try clear hk); (try clear hi)) | ((with_reducible refine gate_callee (f := 32) rfl ?_); refine ge_ (some 56) rfl rfl Try.func32 (by kernel_rfl) rfl #[.int .i64 a2, .slice A1 l1.length c1] rfl (h := ?_); (with_reducible refine (batch_Shift.calls kj4 a2 _ _ l1 t174 _ ?side1 ?side2 A17.out).mono ?_); (case side1 => exact cw_ (Kd.C_below HR1.out HB.out)); (case side2 => exact HC1.out); rintro e w21 ⟨rfl, hb⟩; refine ⟨_, rfl, ?_⟩; replace HB := bs_ HB hb; (try clear hb); (try clear hb2); (try clear hk); (try clear hi)) | ((with_reducible refine gate_callee (f := 32) rfl ?_); refine ge_ (some 59) rfl rfl Try.func32 (by kernel_rfl) rfl #[.int .i64 a3, .slice A1 l1.length c1] rfl (h := ?_); (with_reducible refine (batch_Shift.calls kj4 a3 _ _ l1 t175 _ ?side1 ?side2 A18.out).mono ?_); (case side1 => exact cw_ (Kd.C_below HR1.out HB.out)); (case side2 => exact HC1.out); rintro e w22 ⟨rfl, hb⟩; refine ⟨_, rfl, ?_⟩; replace HB := bs_ HB hb; (try clear hb); (try clear hb2); (try clear hk); (try clear hi)))
     (try simp only [Act.put, List.setIfInBounds_toArray, List.set_cons_zero, List.set_cons_succ])
     go_cut [72] (fun v72 wc => ∃ (kq : Nat) (x72_18 : Bool), v72 = .bool x72_18 ∧ Aside0 (calamuslaw09_BatchPlaces.j1 kq a0 l1 a2 t171 t174 x72_18 = some r) ∧ Aside0 (kq ≤ kj4) ∧ Aside0 (Below w.heap.size w wc))
     case first =>
      have H := HC19.out
      clear HC19
      by_cases c23 : t174 < 0
      ·rw [if_pos c23] at H
       have c23b0 : decide (t174 < 0) = true := decide_eq_true c23
       clear c23
       (first | rw [c23b0] | (simp only [i64_w, i32_w]; rw [c23b0]) | skip)
       have H' := Aside0.mk H
       clear H
       go_wp2
       go_meet
       case rel => exact ⟨_, (true), es_, H', ⟨by have := HJ4.out; first | omega | exact Nat.le_refl _⟩, ⟨hb_ HB⟩⟩
      ·rw [if_neg c23] at H
       have c23b0 : decide (t174 < 0) = false := decide_eq_false c23
       clear c23
       (first | rw [c23b0] | (simp only [i64_w, i32_w]; rw [c23b0]) | skip)
       by_cases c24 : t174 > (t171.size : Int)
       ·rw [if_pos c24] at H
        have c24b0 : decide ((t171.size : Int) < t174) = true := decide_eq_true c24
        clear c24
        have H' := Aside0.mk H
        clear H
        go_wp2
        go_meet
        case rel => exact ⟨_, (true), es_, H', ⟨by have := HJ4.out; first | omega | exact Nat.le_refl _⟩, ⟨hb_ HB⟩⟩
       ·rw [if_neg c24] at H
        have c24b0 : decide ((t171.size : Int) < t174) = false := decide_eq_false c24
        clear c24
        have H' := Aside0.mk H
        clear H
        go_wp2
        go_meet
        case rel => exact ⟨_, (decide (t174 > t175)), es_, H', ⟨by have := HJ4.out; first | omega | exact Nat.le_refl _⟩, ⟨hb_ HB⟩⟩
     case rest =>
      clear HC19
      try clear c12
      try clear c16
      try clear c16b0
      try clear c16b1
      obtain ⟨kq, x72_18, rfl, HA, HJ18, HB⟩ := hcut
      cases kq with
      | zero => exact absurd HA.out (by simp [calamuslaw09_BatchPlaces.j1])
      | succ kj18 =>
       have H := HA.out
       clear HA
       simp only [calamuslaw09_BatchPlaces.j1] at H
       by_cases c25 : x72_18 = true
       ·subst c25
        have H1 : (some false) = some r := by rw [if_pos rfl] at H; exact H
        clear H
        have H := H1
        clear H1
        exact nf_ H hr_
       ·replace c25 := Bool.eq_false_iff.mpr c25
        subst c25
        have H1 : (calamuslaw09_BatchPlaces.l0 kj18 a0 l1 a2 t171 t174 0) = some r := by rw [if_neg (show ¬ (false = true) by decide)] at H; exact H
        clear H
        have H := H1
        clear H1
        have H' := Aside0.mk H
        clear H
        go_wp2
        go_loopg [13] kj18 (fun kq v13 w' => ∃ (x13_3 : Int), v13 = .int .i64 x13_3 ∧ Aside0 (calamuslaw09_BatchPlaces.l0 kq a0 l1 a2 t171 t174 x13_3 = some r) ∧ Aside0 (kq ≤ kj18) ∧ Aside0 (Below w.heap.size w w'))
        case atStart => exact ⟨(0), es_, H', ⟨Nat.le_refl _⟩, ⟨hb_ HB⟩⟩
        case round =>
         clear H'
         try clear c12
         try clear c16
         try clear c16b0
         try clear c16b1
         try clear c25
         obtain ⟨x13_3, rfl, HA, HK3, HB⟩ := hrel
         cases gk with
         | zero => exact absurd HA.out (by simp [calamuslaw09_BatchPlaces.l0])
         | succ k3 =>
          have H := HA.out
          clear HA
          simp only [calamuslaw09_BatchPlaces.l0] at H
          by_cases c26 : x13_3 < (l1.length : Int)
          ·rw [if_pos c26] at H
           have c26b0 : decide (x13_3 < (l1.length : Int)) = true := decide_eq_true c26
           clear c26
           by_cases c27 : 0 ≤ x13_3
           ·rw [if_pos c27] at H
            have c27b0 : decide (0 ≤ x13_3) = true := decide_eq_true c27
            clear c27
            by_cases c28 : a2 ≥ ((rd_T24 l1 x13_3).f0)
            ·rw [if_pos c28] at H
             have c28b0 : decide (((rd_T24 l1 x13_3).f0) ≤ a2) = true := decide_eq_true c28
             clear c28
             by_cases c29 : a2 < (wrap64 (((rd_T24 l1 x13_3).f0) + (((rd_T24 l1 x13_3).f1).size : Int)))
             ·rw [if_pos c29] at H
              have c29b0 : decide (a2 < (wrap64 (((rd_T24 l1 x13_3).f0) + (((rd_T24 l1 x13_3).f1).size : Int)))) = true := decide_eq_true c29
              clear c29
              replace H := Option.bind_eq_some_iff.mp H
              obtain ⟨t179, A300, H⟩ := H
              replace H : (some t179) = some r := H
              have A30 := Aside0.mk A300
              clear A300
              obtain rfl := Option.some.inj H
              try go_wp2
              have n0_ := Aside0.mk (below_drew1 HB.out)
              clear HB
              have HB := n0_
              clear n0_
              have p176 : 0 ≤ (x13_3 : Int) := of_decide_eq_true as_
              have q176 : x13_3 < (l1.length : Int) := of_decide_eq_true as_
              obtain ⟨ad176, e176, hx176_0, hx176_1, hx176_2⟩ := at_T24 HR1.out x13_3 p176 q176
              have hw176_2 := hx176_2
              have hw176_1 := hx176_1
              have hw176_0 := hx176_0
              cases e176
              replace hx176_0 := cb_ HB hx176_0
              replace hx176_1 := cb_ HB hx176_1
              replace hx176_2 := cb_ HB hx176_2
              replace p176 := eq_true p176
              replace q176 := eq_true q176
              have p177 : 0 ≤ (x13_3 : Int) := of_decide_eq_true as_
              have q177 : x13_3 < (l1.length : Int) := of_decide_eq_true as_
              obtain ⟨ad177, e177, hx177_0, hx177_1, hx177_2⟩ := at_T24 HR1.out x13_3 p177 q177
              have hw177_2 := hx177_2
              have hw177_1 := hx177_1
              have hw177_0 := hx177_0
              obtain rfl : ad176 = ad177 := (by injection e177)
              replace hx177_0 := cb_ HB hx177_0
              replace hx177_1 := cb_ HB hx177_1
              replace hx177_2 := cb_ HB hx177_2
              replace p177 := eq_true p177
              replace q177 := eq_true q177
              have p178 : 0 ≤ (x13_3 : Int) := of_decide_eq_true as_
              have q178 : x13_3 < (l1.length : Int) := of_decide_eq_true as_
              obtain ⟨ad178, e178, hx178_0, hx178_1, hx178_2⟩ := at_T24 HR1.out x13_3 p178 q178
              have hw178_2 := hx178_2
              have hw178_1 := hx178_1
              have hw178_0 := hx178_0
              obtain rfl : ad176 = ad178 := (by injection e178)
              replace hx178_0 := cb_ HB hx178_0
              replace hx178_1 := cb_ HB hx178_1
              replace hx178_2 := cb_ HB hx178_2
              replace p178 := eq_true p178
              replace q178 := eq_true q178
              refine start_ (n := 23) (S := fun w' => w'.cell? (ad176.add ((x13_3).toNat * 3)) = some (.int .i64 ((rd_T24 l1 x13_3).f0)) ∧ w'.cell? ⟨(ad176.add ((x13_3).toNat * 3)).block, (ad176.add ((x13_3).toNat * 3)).off + 1, none⟩ = some (.string ((rd_T24 l1 x13_3).f1)) ∧ w'.cell? ⟨(ad176.add ((x13_3).toNat * 3)).block, (ad176.add ((x13_3).toNat * 3)).off + 2, none⟩ = some (.string ((rd_T24 l1 x13_3).f2)) ∧ w'.cell? (ad176.add ((x13_3).toNat * 3)) = some (.int .i64 ((rd_T24 l1 x13_3).f0)) ∧ w'.cell? ⟨(ad176.add ((x13_3).toNat * 3)).block, (ad176.add ((x13_3).toNat * 3)).off + 1, none⟩ = some (.string ((rd_T24 l1 x13_3).f1)) ∧ w'.cell? ⟨(ad176.add ((x13_3).toNat * 3)).block, (ad176.add ((x13_3).toNat * 3)).off + 2, none⟩ = some (.string ((rd_T24 l1 x13_3).f2)) ∧ w'.cell? (ad176.add ((x13_3).toNat * 3)) = some (.int .i64 ((rd_T24 l1 x13_3).f0)) ∧ w'.cell? ⟨(ad176.add ((x13_3).toNat * 3)).block, (ad176.add ((x13_3).toNat * 3)).off + 1, none⟩ = some (.string ((rd_T24 l1 x13_3).f1)) ∧ w'.cell? ⟨(ad176.add ((x13_3).toNat * 3)).block, (ad176.add ((x13_3).toNat * 3)).off + 2, none⟩ = some (.string ((rd_T24 l1 x13_3).f2))) (ds := []) #[false, false, false, false, false, false, false, false, false, false, false, false, false, false, false, false, false, false, false, false, false, false, false] (by kernel_rfl) rfl rfl ⟨((HB.out.cell (World.block_lt_of_cell? w _ hw176_0)).trans hw176_0), ((HB.out.cell (World.block_lt_of_cell? w _ hw176_1)).trans hw176_1), ((HB.out.cell (World.block_lt_of_cell? w _ hw176_2)).trans hw176_2), ((HB.out.cell (World.block_lt_of_cell? w _ hw177_0)).trans hw177_0), ((HB.out.cell (World.block_lt_of_cell? w _ hw177_1)).trans hw177_1), ((HB.out.cell (World.block_lt_of_cell? w _ hw177_2)).trans hw177_2), ((HB.out.cell (World.block_lt_of_cell? w _ hw178_0)).trans hw178_0), ((HB.out.cell (World.block_lt_of_cell? w _ hw178_1)).trans hw178_1), ((HB.out.cell (World.block_lt_of_cell? w _ hw178_2)).trans hw178_2)⟩ (fun hHeld => ?_); refine with_tabW calamuslaw09_BatchPlaces.tab12 calamuslaw09_BatchPlaces.bits12 (fun HT_ HW_ => ?_)
              generalize wr.drew = w31 at HB hx176_0 hx176_1 hx176_2 hx177_0 hx177_1 hx177_2 hx178_0 hx178_1 hx178_2 hHeld ⊢
              refine pp_ (i := 0) (N := some 79) #[true, false, false, false, false, false, false, false, false, false, false, false, false, false, false, false, false, false, false, false, false, false, false] rfl rfl (any_of HT_.out (by kernel_rfl)) (h := ?_)
              refine pp_ (i := 1) (N := some 80) #[true, true, false, false, false, false, false, false, false, false, false, false, false, false, false, false, false, false, false, false, false, false, false] rfl rfl (any_of HT_.out (by kernel_rfl)) (h := ?_)
              refine pp_ (i := 2) (N := some 81) #[true, true, true, false, false, false, false, false, false, false, false, false, false, false, false, false, false, false, false, false, false, false, false] rfl rfl (any_of HT_.out (by kernel_rfl)) (h := ?_)
              refine pp_ (i := 3) (N := some 82) #[true, true, true, true, false, false, false, false, false, false, false, false, false, false, false, false, false, false, false, false, false, false, false] rfl rfl (any_of HT_.out (by kernel_rfl)) (h := ?_)
              refine pp_ (i := 4) (N := some 83) #[true, true, true, true, true, false, false, false, false, false, false, false, false, false, false, false, false, false, false, false, false, false, false] rfl rfl (any_of HT_.out (by kernel_rfl)) (h := ?_)
              refine take_ (i := 5) (N := some 84) (v := ?_) (a' := ?_) #[true, true, true, true, true, true, false, false, false, false, false, false, false, false, false, false, false, false, false, false, false, false, false] rfl rfl (take_ofW HT_.out HW_.out (by kernel_rfl)) (fun _ _ _ h => h) (Or.inl ⟨by rfl, ?_⟩) hHeld ?_ ?_
              rotate_left
              ·rintro w' ⟨s0, s1, s2, s3, s4, s5, s6, s7, s8⟩
               go_simp
               with_reducible rfl
              rotate_left
              ·simp only [Act.put, List.setIfInBounds_toArray, List.set_cons_zero, List.set_cons_succ, i64_w, i32_w]
               rfl
              refine pp_ (i := 6) (N := some 85) #[true, true, true, true, true, true, true, false, false, false, false, false, false, false, false, false, false, false, false, false, false, false, false] rfl rfl (any_of HT_.out (by kernel_rfl)) (h := ?_)
              refine pp_ (i := 7) (N := some 86) #[true, true, true, true, true, true, true, true, false, false, false, false, false, false, false, false, false, false, false, false, false, false, false] rfl rfl (any_of HT_.out (by kernel_rfl)) (h := ?_)
              refine pp_ (i := 8) (N := some 87) #[true, true, true, true, true, true, true, true, true, false, false, false, false, false, false, false, false, false, false, false, false, false, false] rfl rfl (any_of HT_.out (by kernel_rfl)) (h := ?_)
              refine pp_ (i := 9) (N := some 88) #[true, true, true, true, true, true, true, true, true, true, false, false, false, false, false, false, false, false, false, false, false, false, false] rfl rfl (any_of HT_.out (by kernel_rfl)) (h := ?_)
              refine pp_ (i := 10) (N := some 89) #[true, true, true, true, true, true, true, true, true, true, true, false, false, false, false, false, false, false, false, false, false, false, false] rfl rfl (any_of HT_.out (by kernel_rfl)) (h := ?_)
              refine pp_ (i := 11) (N := some 90) #[true, true, true, true, true, true, true, true, true, true, true, true, false, false, false, false, false, false, false, false, false, false, false] rfl rfl (any_of HT_.out (by kernel_rfl)) (h := ?_)
              refine pp_ (i := 12) (N := some 91) #[true, true, true, true, true, true, true, true, true, true, true, true, true, false, false, false, false, false, false, false, false, false, false] rfl rfl (any_of HT_.out (by kernel_rfl)) (h := ?_)
              refine pp_ (i := 14) (N := some 93) #[true, true, true, true, true, true, true, true, true, true, true, true, true, false, true, false, false, false, false, false, false, false, false] rfl rfl (any_of HT_.out (by kernel_rfl)) (h := ?_)
              refine pp_ (i := 15) (N := some 94) #[true, true, true, true, true, true, true, true, true, true, true, true, true, false, true, true, false, false, false, false, false, false, false] rfl rfl (any_of HT_.out (by kernel_rfl)) (h := ?_)
              refine pp_ (i := 16) (N := some 95) #[true, true, true, true, true, true, true, true, true, true, true, true, true, false, true, true, true, false, false, false, false, false, false] rfl rfl (any_of HT_.out (by kernel_rfl)) (h := ?_)
              refine pp_ (i := 17) (N := some 96) #[true, true, true, true, true, true, true, true, true, true, true, true, true, false, true, true, true, true, false, false, false, false, false] rfl rfl (any_of HT_.out (by kernel_rfl)) (h := ?_)
              refine take_ (i := 13) (N := some 92) (v := ?_) (a' := ?_) #[true, true, true, true, true, true, true, true, true, true, true, true, true, true, true, true, true, true, false, false, false, false, false] rfl rfl (take_ofW HT_.out HW_.out (by kernel_rfl)) (fun _ _ _ h => h) (Or.inl ⟨by rfl, ?_⟩) hHeld ?_ ?_
              rotate_left
              ·rintro w' ⟨s0, s1, s2, s3, s4, s5, s6, s7, s8⟩
               go_simp
               with_reducible rfl
              rotate_left
              ·simp only [Act.put, List.setIfInBounds_toArray, List.set_cons_zero, List.set_cons_succ, i64_w, i32_w]
               rfl
              refine take_ (i := 18) (N := some 97) (v := ?_) (a' := ?_) #[true, true, true, true, true, true, true, true, true, true, true, true, true, true, true, true, true, true, true, false, false, false, false] rfl rfl (take_ofW HT_.out HW_.out (by kernel_rfl)) (fun _ _ _ h => h) (Or.inl ⟨by rfl, ?_⟩) hHeld ?_ ?_
              rotate_left
              ·rintro w' ⟨s0, s1, s2, s3, s4, s5, s6, s7, s8⟩
               go_simp
               with_reducible rfl
              rotate_left
              ·simp only [Act.put, List.setIfInBounds_toArray, List.set_cons_zero, List.set_cons_succ, i64_w, i32_w]
               rfl
              refine pp_ (i := 19) (N := some 98) #[true, true, true, true, true, true, true, true, true, true, true, true, true, true, true, true, true, true, true, true, false, false, false] rfl rfl (any_of HT_.out (by kernel_rfl)) (h := ?_)
              refine pp_ (i := 20) (N := some 99) #[true, true, true, true, true, true, true, true, true, true, true, true, true, true, true, true, true, true, true, true, true, false, false] rfl rfl (any_of HT_.out (by kernel_rfl)) (h := ?_)
              refine pp_ (i := 21) (N := some 100) #[true, true, true, true, true, true, true, true, true, true, true, true, true, true, true, true, true, true, true, true, true, true, false] rfl rfl (any_of HT_.out (by kernel_rfl)) (h := ?_)
              refine pp_ (i := 22) (N := some 101) #[true, true, true, true, true, true, true, true, true, true, true, true, true, true, true, true, true, true, true, true, true, true, true] rfl rfl (any_of HT_.out (by kernel_rfl)) (h := ?_)
              refine done_ (done_of HT_.out (by kernel_rfl)) ?_
              try go_wp2_with (first | ((with_reducible refine gate_callee (f := 30) rfl ?_); refine ge_ (some 102) rfl rfl Try.func30 (by kernel_rfl) rfl #[] rfl (h := ?_); (with_reducible refine (calamuslaw09_lives.calls k3  t179 _ A30.out).mono ?_); rintro e w32 ⟨rfl, hb⟩; refine ⟨_, rfl, ?_⟩; replace HB := bs_ HB hb; (try clear hb); (try clear hb2); (try clear hk); (try clear hi)))
              go_ret
              exact ⟨er_, hb_ HB⟩
             ·rw [if_neg c29] at H
              have c29b0 : decide (a2 < (wrap64 (((rd_T24 l1 x13_3).f0) + (((rd_T24 l1 x13_3).f1).size : Int)))) = false := decide_eq_false c29
              clear c29
              have H' := Aside0.mk H
              clear H
              try go_wp2
              have n0_ := Aside0.mk (below_drew1 HB.out)
              clear HB
              have HB := n0_
              clear n0_
              have p176 : 0 ≤ (x13_3 : Int) := of_decide_eq_true as_
              have q176 : x13_3 < (l1.length : Int) := of_decide_eq_true as_
              obtain ⟨ad176, e176, hx176_0, hx176_1, hx176_2⟩ := at_T24 HR1.out x13_3 p176 q176
              have hw176_2 := hx176_2
              have hw176_1 := hx176_1
              have hw176_0 := hx176_0
              cases e176
              replace hx176_0 := cb_ HB hx176_0
              replace hx176_1 := cb_ HB hx176_1
              replace hx176_2 := cb_ HB hx176_2
              replace p176 := eq_true p176
              replace q176 := eq_true q176
              have p177 : 0 ≤ (x13_3 : Int) := of_decide_eq_true as_
              have q177 : x13_3 < (l1.length : Int) := of_decide_eq_true as_
              obtain ⟨ad177, e177, hx177_0, hx177_1, hx177_2⟩ := at_T24 HR1.out x13_3 p177 q177
              have hw177_2 := hx177_2
              have hw177_1 := hx177_1
              have hw177_0 := hx177_0
              obtain rfl : ad176 = ad177 := (by injection e177)
              replace hx177_0 := cb_ HB hx177_0
              replace hx177_1 := cb_ HB hx177_1
              replace hx177_2 := cb_ HB hx177_2
              replace p177 := eq_true p177
              replace q177 := eq_true q177
              have p178 : 0 ≤ (x13_3 : Int) := of_decide_eq_true as_
              have q178 : x13_3 < (l1.length : Int) := of_decide_eq_true as_
              obtain ⟨ad178, e178, hx178_0, hx178_1, hx178_2⟩ := at_T24 HR1.out x13_3 p178 q178
              have hw178_2 := hx178_2
              have hw178_1 := hx178_1
              have hw178_0 := hx178_0
              obtain rfl : ad176 = ad178 := (by injection e178)
              replace hx178_0 := cb_ HB hx178_0
              replace hx178_1 := cb_ HB hx178_1
              replace hx178_2 := cb_ HB hx178_2
              replace p178 := eq_true p178
              replace q178 := eq_true q178
              refine start_ (n := 23) (S := fun w' => w'.cell? (ad176.add ((x13_3).toNat * 3)) = some (.int .i64 ((rd_T24 l1 x13_3).f0)) ∧ w'.cell? ⟨(ad176.add ((x13_3).toNat * 3)).block, (ad176.add ((x13_3).toNat * 3)).off + 1, none⟩ = some (.string ((rd_T24 l1 x13_3).f1)) ∧ w'.cell? ⟨(ad176.add ((x13_3).toNat * 3)).block, (ad176.add ((x13_3).toNat * 3)).off + 2, none⟩ = some (.string ((rd_T24 l1 x13_3).f2)) ∧ w'.cell? (ad176.add ((x13_3).toNat * 3)) = some (.int .i64 ((rd_T24 l1 x13_3).f0)) ∧ w'.cell? ⟨(ad176.add ((x13_3).toNat * 3)).block, (ad176.add ((x13_3).toNat * 3)).off + 1, none⟩ = some (.string ((rd_T24 l1 x13_3).f1)) ∧ w'.cell? ⟨(ad176.add ((x13_3).toNat * 3)).block, (ad176.add ((x13_3).toNat * 3)).off + 2, none⟩ = some (.string ((rd_T24 l1 x13_3).f2)) ∧ w'.cell? (ad176.add ((x13_3).toNat * 3)) = some (.int .i64 ((rd_T24 l1 x13_3).f0)) ∧ w'.cell? ⟨(ad176.add ((x13_3).toNat * 3)).block, (ad176.add ((x13_3).toNat * 3)).off + 1, none⟩ = some (.string ((rd_T24 l1 x13_3).f1)) ∧ w'.cell? ⟨(ad176.add ((x13_3).toNat * 3)).block, (ad176.add ((x13_3).toNat * 3)).off + 2, none⟩ = some (.string ((rd_T24 l1 x13_3).f2))) (ds := []) #[false, false, false, false, false, false, false, false, false, false, false, false, false, false, false, false, false, false, false, false, false, false, false] (by kernel_rfl) rfl rfl ⟨((HB.out.cell (World.block_lt_of_cell? w _ hw176_0)).trans hw176_0), ((HB.out.cell (World.block_lt_of_cell? w _ hw176_1)).trans hw176_1), ((HB.out.cell (World.block_lt_of_cell? w _ hw176_2)).trans hw176_2), ((HB.out.cell (World.block_lt_of_cell? w _ hw177_0)).trans hw177_0), ((HB.out.cell (World.block_lt_of_cell? w _ hw177_1)).trans hw177_1), ((HB.out.cell (World.block_lt_of_cell? w _ hw177_2)).trans hw177_2), ((HB.out.cell (World.block_lt_of_cell? w _ hw178_0)).trans hw178_0), ((HB.out.cell (World.block_lt_of_cell? w _ hw178_1)).trans hw178_1), ((HB.out.cell (World.block_lt_of_cell? w _ hw178_2)).trans hw178_2)⟩ (fun hHeld => ?_); refine with_tabW calamuslaw09_BatchPlaces.tab12 calamuslaw09_BatchPlaces.bits12 (fun HT_ HW_ => ?_)
              generalize wr.drew = w33 at HB hx176_0 hx176_1 hx176_2 hx177_0 hx177_1 hx177_2 hx178_0 hx178_1 hx178_2 hHeld ⊢
              refine pp_ (i := 0) (N := some 79) #[true, false, false, false, false, false, false, false, false, false, false, false, false, false, false, false, false, false, false, false, false, false, false] rfl rfl (any_of HT_.out (by kernel_rfl)) (h := ?_)
              refine pp_ (i := 1) (N := some 80) #[true, true, false, false, false, false, false, false, false, false, false, false, false, false, false, false, false, false, false, false, false, false, false] rfl rfl (any_of HT_.out (by kernel_rfl)) (h := ?_)
              refine pp_ (i := 2) (N := some 81) #[true, true, true, false, false, false, false, false, false, false, false, false, false, false, false, false, false, false, false, false, false, false, false] rfl rfl (any_of HT_.out (by kernel_rfl)) (h := ?_)
              refine pp_ (i := 3) (N := some 82) #[true, true, true, true, false, false, false, false, false, false, false, false, false, false, false, false, false, false, false, false, false, false, false] rfl rfl (any_of HT_.out (by kernel_rfl)) (h := ?_)
              refine pp_ (i := 4) (N := some 83) #[true, true, true, true, true, false, false, false, false, false, false, false, false, false, false, false, false, false, false, false, false, false, false] rfl rfl (any_of HT_.out (by kernel_rfl)) (h := ?_)
              refine take_ (i := 5) (N := some 84) (v := ?_) (a' := ?_) #[true, true, true, true, true, true, false, false, false, false, false, false, false, false, false, false, false, false, false, false, false, false, false] rfl rfl (take_ofW HT_.out HW_.out (by kernel_rfl)) (fun _ _ _ h => h) (Or.inl ⟨by rfl, ?_⟩) hHeld ?_ ?_
              rotate_left
              ·rintro w' ⟨s0, s1, s2, s3, s4, s5, s6, s7, s8⟩
               go_simp
               with_reducible rfl
              rotate_left
              ·simp only [Act.put, List.setIfInBounds_toArray, List.set_cons_zero, List.set_cons_succ, i64_w, i32_w]
               rfl
              refine pp_ (i := 6) (N := some 85) #[true, true, true, true, true, true, true, false, false, false, false, false, false, false, false, false, false, false, false, false, false, false, false] rfl rfl (any_of HT_.out (by kernel_rfl)) (h := ?_)
              refine pp_ (i := 7) (N := some 86) #[true, true, true, true, true, true, true, true, false, false, false, false, false, false, false, false, false, false, false, false, false, false, false] rfl rfl (any_of HT_.out (by kernel_rfl)) (h := ?_)
              refine pp_ (i := 8) (N := some 87) #[true, true, true, true, true, true, true, true, true, false, false, false, false, false, false, false, false, false, false, false, false, false, false] rfl rfl (any_of HT_.out (by kernel_rfl)) (h := ?_)
              refine pp_ (i := 9) (N := some 88) #[true, true, true, true, true, true, true, true, true, true, false, false, false, false, false, false, false, false, false, false, false, false, false] rfl rfl (any_of HT_.out (by kernel_rfl)) (h := ?_)
              refine pp_ (i := 10) (N := some 89) #[true, true, true, true, true, true, true, true, true, true, true, false, false, false, false, false, false, false, false, false, false, false, false] rfl rfl (any_of HT_.out (by kernel_rfl)) (h := ?_)
              refine pp_ (i := 11) (N := some 90) #[true, true, true, true, true, true, true, true, true, true, true, true, false, false, false, false, false, false, false, false, false, false, false] rfl rfl (any_of HT_.out (by kernel_rfl)) (h := ?_)
              refine pp_ (i := 12) (N := some 91) #[true, true, true, true, true, true, true, true, true, true, true, true, true, false, false, false, false, false, false, false, false, false, false] rfl rfl (any_of HT_.out (by kernel_rfl)) (h := ?_)
              refine pp_ (i := 14) (N := some 93) #[true, true, true, true, true, true, true, true, true, true, true, true, true, false, true, false, false, false, false, false, false, false, false] rfl rfl (any_of HT_.out (by kernel_rfl)) (h := ?_)
              refine pp_ (i := 15) (N := some 94) #[true, true, true, true, true, true, true, true, true, true, true, true, true, false, true, true, false, false, false, false, false, false, false] rfl rfl (any_of HT_.out (by kernel_rfl)) (h := ?_)
              refine pp_ (i := 16) (N := some 95) #[true, true, true, true, true, true, true, true, true, true, true, true, true, false, true, true, true, false, false, false, false, false, false] rfl rfl (any_of HT_.out (by kernel_rfl)) (h := ?_)
              refine pp_ (i := 17) (N := some 96) #[true, true, true, true, true, true, true, true, true, true, true, true, true, false, true, true, true, true, false, false, false, false, false] rfl rfl (any_of HT_.out (by kernel_rfl)) (h := ?_)
              refine take_ (i := 13) (N := some 92) (v := ?_) (a' := ?_) #[true, true, true, true, true, true, true, true, true, true, true, true, true, true, true, true, true, true, false, false, false, false, false] rfl rfl (take_ofW HT_.out HW_.out (by kernel_rfl)) (fun _ _ _ h => h) (Or.inl ⟨by rfl, ?_⟩) hHeld ?_ ?_
              rotate_left
              ·rintro w' ⟨s0, s1, s2, s3, s4, s5, s6, s7, s8⟩
               go_simp
               with_reducible rfl
              rotate_left
              ·simp only [Act.put, List.setIfInBounds_toArray, List.set_cons_zero, List.set_cons_succ, i64_w, i32_w]
               rfl
              refine take_ (i := 18) (N := some 97) (v := ?_) (a' := ?_) #[true, true, true, true, true, true, true, true, true, true, true, true, true, true, true, true, true, true, true, false, false, false, false] rfl rfl (take_ofW HT_.out HW_.out (by kernel_rfl)) (fun _ _ _ h => h) (Or.inl ⟨by rfl, ?_⟩) hHeld ?_ ?_
              rotate_left
              ·rintro w' ⟨s0, s1, s2, s3, s4, s5, s6, s7, s8⟩
               go_simp
               with_reducible rfl
              rotate_left
              ·simp only [Act.put, List.setIfInBounds_toArray, List.set_cons_zero, List.set_cons_succ, i64_w, i32_w]
               rfl
              refine pp_ (i := 19) (N := some 98) #[true, true, true, true, true, true, true, true, true, true, true, true, true, true, true, true, true, true, true, true, false, false, false] rfl rfl (any_of HT_.out (by kernel_rfl)) (h := ?_)
              refine pp_ (i := 20) (N := some 99) #[true, true, true, true, true, true, true, true, true, true, true, true, true, true, true, true, true, true, true, true, true, false, false] rfl rfl (any_of HT_.out (by kernel_rfl)) (h := ?_)
              refine pp_ (i := 21) (N := some 100) #[true, true, true, true, true, true, true, true, true, true, true, true, true, true, true, true, true, true, true, true, true, true, false] rfl rfl (any_of HT_.out (by kernel_rfl)) (h := ?_)
              refine pp_ (i := 22) (N := some 101) #[true, true, true, true, true, true, true, true, true, true, true, true, true, true, true, true, true, true, true, true, true, true, true] rfl rfl (any_of HT_.out (by kernel_rfl)) (h := ?_)
              refine done_ (done_of HT_.out (by kernel_rfl)) ?_
              try go_wp2
              go_roundg k3
              case measure => have := HJ4.out; have := HJ18.out; have := HK3.out; omega
              case rel => exact ⟨(wrap64 (x13_3 + 1)), es_, H', ⟨by have := HJ4.out; have := HJ18.out; have := HK3.out; omega⟩, ⟨hb_ HB⟩⟩
            ·rw [if_neg c28] at H
             have c28b0 : decide (((rd_T24 l1 x13_3).f0) ≤ a2) = false := decide_eq_false c28
             clear c28
             have H' := Aside0.mk H
             clear H
             try go_wp2
             have n0_ := Aside0.mk (below_drew1 HB.out)
             clear HB
             have HB := n0_
             clear n0_
             have p176 : 0 ≤ (x13_3 : Int) := of_decide_eq_true as_
             have q176 : x13_3 < (l1.length : Int) := of_decide_eq_true as_
             obtain ⟨ad176, e176, hx176_0, hx176_1, hx176_2⟩ := at_T24 HR1.out x13_3 p176 q176
             have hw176_2 := hx176_2
             have hw176_1 := hx176_1
             have hw176_0 := hx176_0
             cases e176
             replace hx176_0 := cb_ HB hx176_0
             replace hx176_1 := cb_ HB hx176_1
             replace hx176_2 := cb_ HB hx176_2
             replace p176 := eq_true p176
             replace q176 := eq_true q176
             refine start_ (n := 23) (S := fun w' => w'.cell? (ad176.add ((x13_3).toNat * 3)) = some (.int .i64 ((rd_T24 l1 x13_3).f0)) ∧ w'.cell? ⟨(ad176.add ((x13_3).toNat * 3)).block, (ad176.add ((x13_3).toNat * 3)).off + 1, none⟩ = some (.string ((rd_T24 l1 x13_3).f1)) ∧ w'.cell? ⟨(ad176.add ((x13_3).toNat * 3)).block, (ad176.add ((x13_3).toNat * 3)).off + 2, none⟩ = some (.string ((rd_T24 l1 x13_3).f2))) (ds := []) #[false, false, false, false, false, false, false, false, false, false, false, false, false, false, false, false, false, false, false, false, false, false, false] (by kernel_rfl) rfl rfl ⟨((HB.out.cell (World.block_lt_of_cell? w _ hw176_0)).trans hw176_0), ((HB.out.cell (World.block_lt_of_cell? w _ hw176_1)).trans hw176_1), ((HB.out.cell (World.block_lt_of_cell? w _ hw176_2)).trans hw176_2)⟩ (fun hHeld => ?_); refine with_tabW calamuslaw09_BatchPlaces.tab12 calamuslaw09_BatchPlaces.bits12 (fun HT_ HW_ => ?_)
             generalize wr.drew = w34 at HB hx176_0 hx176_1 hx176_2 hHeld ⊢
             refine pp_ (i := 0) (N := some 79) #[true, false, false, false, false, false, false, false, false, false, false, false, false, false, false, false, false, false, false, false, false, false, false] rfl rfl (any_of HT_.out (by kernel_rfl)) (h := ?_)
             refine pp_ (i := 1) (N := some 80) #[true, true, false, false, false, false, false, false, false, false, false, false, false, false, false, false, false, false, false, false, false, false, false] rfl rfl (any_of HT_.out (by kernel_rfl)) (h := ?_)
             refine pp_ (i := 2) (N := some 81) #[true, true, true, false, false, false, false, false, false, false, false, false, false, false, false, false, false, false, false, false, false, false, false] rfl rfl (any_of HT_.out (by kernel_rfl)) (h := ?_)
             refine pp_ (i := 3) (N := some 82) #[true, true, true, true, false, false, false, false, false, false, false, false, false, false, false, false, false, false, false, false, false, false, false] rfl rfl (any_of HT_.out (by kernel_rfl)) (h := ?_)
             refine pp_ (i := 4) (N := some 83) #[true, true, true, true, true, false, false, false, false, false, false, false, false, false, false, false, false, false, false, false, false, false, false] rfl rfl (any_of HT_.out (by kernel_rfl)) (h := ?_)
             refine take_ (i := 5) (N := some 84) (v := ?_) (a' := ?_) #[true, true, true, true, true, true, false, false, false, false, false, false, false, false, false, false, false, false, false, false, false, false, false] rfl rfl (take_ofW HT_.out HW_.out (by kernel_rfl)) (fun _ _ _ h => h) (Or.inl ⟨by rfl, ?_⟩) hHeld ?_ ?_
             rotate_left
             ·rintro w' ⟨s0, s1, s2⟩
              go_simp
              with_reducible rfl
             rotate_left
             ·simp only [Act.put, List.setIfInBounds_toArray, List.set_cons_zero, List.set_cons_succ, i64_w, i32_w]
              rfl
             refine pp_ (i := 6) (N := some 85) #[true, true, true, true, true, true, true, false, false, false, false, false, false, false, false, false, false, false, false, false, false, false, false] rfl rfl (any_of HT_.out (by kernel_rfl)) (h := ?_)
             refine pp_ (i := 7) (N := some 86) #[true, true, true, true, true, true, true, true, false, false, false, false, false, false, false, false, false, false, false, false, false, false, false] rfl rfl (any_of HT_.out (by kernel_rfl)) (h := ?_)
             refine pure_ (i := 8) (N := some 87) (v := undef) (a' := ?_) #[true, true, true, true, true, true, true, true, true, false, false, false, false, false, false, false, false, false, false, false, false, false, false] rfl rfl (any_of HT_.out (by kernel_rfl)) (fun _ _ _ h => h) (Or.inr ⟨by rfl, rfl⟩) ?_ ?_
             rotate_left
             ·simp only [Act.put, List.setIfInBounds_toArray, List.set_cons_zero, List.set_cons_succ, i64_w, i32_w]
              rfl
             refine pure_ (i := 9) (N := some 88) (v := undef) (a' := ?_) #[true, true, true, true, true, true, true, true, true, true, false, false, false, false, false, false, false, false, false, false, false, false, false] rfl rfl (any_of HT_.out (by kernel_rfl)) (fun _ _ _ h => h) (Or.inr ⟨by rfl, rfl⟩) ?_ ?_
             rotate_left
             ·simp only [Act.put, List.setIfInBounds_toArray, List.set_cons_zero, List.set_cons_succ, i64_w, i32_w]
              rfl
             refine pure_ (i := 10) (N := some 89) (v := undef) (a' := ?_) #[true, true, true, true, true, true, true, true, true, true, true, false, false, false, false, false, false, false, false, false, false, false, false] rfl rfl (any_of HT_.out (by kernel_rfl)) (fun _ _ _ h => h) (Or.inr ⟨by rfl, rfl⟩) ?_ ?_
             rotate_left
             ·simp only [Act.put, List.setIfInBounds_toArray, List.set_cons_zero, List.set_cons_succ, i64_w, i32_w]
              rfl
             refine pure_ (i := 11) (N := some 90) (v := undef) (a' := ?_) #[true, true, true, true, true, true, true, true, true, true, true, true, false, false, false, false, false, false, false, false, false, false, false] rfl rfl (any_of HT_.out (by kernel_rfl)) (fun _ _ _ h => h) (Or.inr ⟨by rfl, rfl⟩) ?_ ?_
             rotate_left
             ·simp only [Act.put, List.setIfInBounds_toArray, List.set_cons_zero, List.set_cons_succ, i64_w, i32_w]
              rfl
             refine pure_ (i := 12) (N := some 91) (v := undef) (a' := ?_) #[true, true, true, true, true, true, true, true, true, true, true, true, true, false, false, false, false, false, false, false, false, false, false] rfl rfl (any_of HT_.out (by kernel_rfl)) (fun _ _ _ h => h) (Or.inr ⟨by rfl, rfl⟩) ?_ ?_
             rotate_left
             ·simp only [Act.put, List.setIfInBounds_toArray, List.set_cons_zero, List.set_cons_succ, i64_w, i32_w]
              rfl
             refine pure_ (i := 13) (N := some 92) (v := undef) (a' := ?_) #[true, true, true, true, true, true, true, true, true, true, true, true, true, true, false, false, false, false, false, false, false, false, false] rfl rfl (any_of HT_.out (by kernel_rfl)) (fun _ _ _ h => h) (Or.inr ⟨by rfl, rfl⟩) ?_ ?_
             rotate_left
             ·simp only [Act.put, List.setIfInBounds_toArray, List.set_cons_zero, List.set_cons_succ, i64_w, i32_w]
              rfl
             refine pure_ (i := 14) (N := some 93) (v := undef) (a' := ?_) #[true, true, true, true, true, true, true, true, true, true, true, true, true, true, true, false, false, false, false, false, false, false, false] rfl rfl (any_of HT_.out (by kernel_rfl)) (fun _ _ _ h => h) (Or.inr ⟨by rfl, rfl⟩) ?_ ?_
             rotate_left
             ·simp only [Act.put, List.setIfInBounds_toArray, List.set_cons_zero, List.set_cons_succ, i64_w, i32_w]
              rfl
             refine pure_ (i := 15) (N := some 94) (v := undef) (a' := ?_) #[true, true, true, true, true, true, true, true, true, true, true, true, true, true, true, true, false, false, false, false, false, false, false] rfl rfl (any_of HT_.out (by kernel_rfl)) (fun _ _ _ h => h) (Or.inr ⟨by rfl, rfl⟩) ?_ ?_
             rotate_left
             ·simp only [Act.put, List.setIfInBounds_toArray, List.set_cons_zero, List.set_cons_succ, i64_w, i32_w]
              rfl
             refine pure_ (i := 16) (N := some 95) (v := undef) (a' := ?_) #[true, true, true, true, true, true, true, true, true, true, true, true, true, true, true, true, true, false, false, false, false, false, false] rfl rfl (any_of HT_.out (by kernel_rfl)) (fun _ _ _ h => h) (Or.inr ⟨by rfl, rfl⟩) ?_ ?_
             rotate_left
             ·simp only [Act.put, List.setIfInBounds_toArray, List.set_cons_zero, List.set_cons_succ, i64_w, i32_w]
              rfl
             refine pure_ (i := 17) (N := some 96) (v := undef) (a' := ?_) #[true, true, true, true, true, true, true, true, true, true, true, true, true, true, true, true, true, true, false, false, false, false, false] rfl rfl (any_of HT_.out (by kernel_rfl)) (fun _ _ _ h => h) (Or.inr ⟨by rfl, rfl⟩) ?_ ?_
             rotate_left
             ·simp only [Act.put, List.setIfInBounds_toArray, List.set_cons_zero, List.set_cons_succ, i64_w, i32_w]
              rfl
             refine pure_ (i := 18) (N := some 97) (v := undef) (a' := ?_) #[true, true, true, true, true, true, true, true, true, true, true, true, true, true, true, true, true, true, true, false, false, false, false] rfl rfl (any_of HT_.out (by kernel_rfl)) (fun _ _ _ h => h) (Or.inr ⟨by rfl, rfl⟩) ?_ ?_
             rotate_left
             ·simp only [Act.put, List.setIfInBounds_toArray, List.set_cons_zero, List.set_cons_succ, i64_w, i32_w]
              rfl
             refine pure_ (i := 19) (N := some 98) (v := undef) (a' := ?_) #[true, true, true, true, true, true, true, true, true, true, true, true, true, true, true, true, true, true, true, true, false, false, false] rfl rfl (any_of HT_.out (by kernel_rfl)) (fun _ _ _ h => h) (Or.inr ⟨by rfl, rfl⟩) ?_ ?_
             rotate_left
             ·simp only [Act.put, List.setIfInBounds_toArray, List.set_cons_zero, List.set_cons_succ, i64_w, i32_w]
              rfl
             refine pure_ (i := 20) (N := some 99) (v := undef) (a' := ?_) #[true, true, true, true, true, true, true, true, true, true, true, true, true, true, true, true, true, true, true, true, true, false, false] rfl rfl (any_of HT_.out (by kernel_rfl)) (fun _ _ _ h => h) (Or.inr ⟨by rfl, rfl⟩) ?_ ?_
             rotate_left
             ·simp only [Act.put, List.setIfInBounds_toArray, List.set_cons_zero, List.set_cons_succ, i64_w, i32_w]
              rfl
             refine pure_ (i := 21) (N := some 100) (v := undef) (a' := ?_) #[true, true, true, true, true, true, true, true, true, true, true, true, true, true, true, true, true, true, true, true, true, true, false] rfl rfl (any_of HT_.out (by kernel_rfl)) (fun _ _ _ h => h) (Or.inr ⟨by rfl, rfl⟩) ?_ ?_
             rotate_left
             ·simp only [Act.put, List.setIfInBounds_toArray, List.set_cons_zero, List.set_cons_succ, i64_w, i32_w]
              rfl
             refine pp_ (i := 22) (N := some 101) #[true, true, true, true, true, true, true, true, true, true, true, true, true, true, true, true, true, true, true, true, true, true, true] rfl rfl (any_of HT_.out (by kernel_rfl)) (h := ?_)
             refine done_ (done_of HT_.out (by kernel_rfl)) ?_
             try go_wp2
             go_roundg k3
             case measure => have := HJ4.out; have := HJ18.out; have := HK3.out; omega
             case rel => exact ⟨(wrap64 (x13_3 + 1)), es_, H', ⟨by have := HJ4.out; have := HJ18.out; have := HK3.out; omega⟩, ⟨hb_ HB⟩⟩
           ·rw [if_neg c27] at H
            exact absurd H (by simp)
          ·rw [if_neg c26] at H
           have c26b0 : decide (x13_3 < (l1.length : Int)) = false := decide_eq_false c26
           clear c26
           by_cases c35 : t174 < (t171.size : Int)
           ·rw [if_pos c35] at H
            have c35b0 : decide (t174 < (t171.size : Int)) = true := decide_eq_true c35
            clear c35
            by_cases c36 : 0 ≤ t174
            ·rw [if_pos c36] at H
             have c36b0 : decide (0 ≤ t174) = true := decide_eq_true c36
             clear c36
             by_cases c38 : 0 ≤ a2
             ·rw [if_pos c38] at H
              have c38b0 : decide (0 ≤ a2) = true := decide_eq_true c38
              clear c38
              by_cases c39 : a2 < (a0.size : Int)
              ·rw [if_pos c39] at H
               have c39b0 : decide (a2 < (a0.size : Int)) = true := decide_eq_true c39
               clear c39
               by_cases c41 : (bt t171 t174) = (bt a0 a2)
               ·rw [if_pos c41] at H
                have c41b0 : ((bt t171 t174) == (bt a0 a2)) = true := beq_iff_eq.mpr c41
                have c41b1 : ((bt t171 t174) != (bt a0 a2)) = false := bne_eq_false_iff_eq.mpr c41
                clear c41
                replace H := Option.bind_eq_some_iff.mp H
                obtain ⟨t180, A420, H⟩ := H
                replace H : (some t180) = some r := H
                have A42 := Aside0.mk A420
                clear A420
                obtain rfl := Option.some.inj H
                try go_wp2
                have n0_ := Aside0.mk (below_drew1 HB.out)
                clear HB
                have HB := n0_
                clear n0_
                have p37 : 0 ≤ (t174 : Int) := of_decide_eq_true as_
                have q37 : t174 < (t171.size : Int) := of_decide_eq_true as_
                have hx37 := bt_at t171 t174
                replace p37 := eq_true p37
                replace q37 := eq_true q37
                have p40 : 0 ≤ (a2 : Int) := of_decide_eq_true as_
                have q40 : a2 < (a0.size : Int) := of_decide_eq_true as_
                have hx40 := bt_at a0 a2
                replace p40 := eq_true p40
                replace q40 := eq_true q40
                refine start_ (n := 17) (S := fun w' => True) (ds := []) #[false, false, false, false, false, false, false, false, false, false, false, false, false, false, false, false, false] (by kernel_rfl) rfl rfl trivial (fun hHeld => ?_); refine with_tabW calamuslaw09_BatchPlaces.tab14 calamuslaw09_BatchPlaces.bits14 (fun HT_ HW_ => ?_)
                generalize wr.drew = w43 at HB hHeld ⊢
                refine pp_ (i := 0) (N := some 103) #[true, false, false, false, false, false, false, false, false, false, false, false, false, false, false, false, false] rfl rfl (any_of HT_.out (by kernel_rfl)) (h := ?_)
                refine pp_ (i := 1) (N := some 104) #[true, true, false, false, false, false, false, false, false, false, false, false, false, false, false, false, false] rfl rfl (any_of HT_.out (by kernel_rfl)) (h := ?_)
                refine pp_ (i := 2) (N := some 105) #[true, true, true, false, false, false, false, false, false, false, false, false, false, false, false, false, false] rfl rfl (any_of HT_.out (by kernel_rfl)) (h := ?_)
                refine pp_ (i := 3) (N := some 106) #[true, true, true, true, false, false, false, false, false, false, false, false, false, false, false, false, false] rfl rfl (any_of HT_.out (by kernel_rfl)) (h := ?_)
                refine pp_ (i := 4) (N := some 107) #[true, true, true, true, true, false, false, false, false, false, false, false, false, false, false, false, false] rfl rfl (any_of HT_.out (by kernel_rfl)) (h := ?_)
                refine pp_ (i := 5) (N := some 108) #[true, true, true, true, true, true, false, false, false, false, false, false, false, false, false, false, false] rfl rfl (any_of HT_.out (by kernel_rfl)) (h := ?_)
                refine pp_ (i := 6) (N := some 109) #[true, true, true, true, true, true, true, false, false, false, false, false, false, false, false, false, false] rfl rfl (any_of HT_.out (by kernel_rfl)) (h := ?_)
                refine pp_ (i := 8) (N := some 111) #[true, true, true, true, true, true, true, false, true, false, false, false, false, false, false, false, false] rfl rfl (any_of HT_.out (by kernel_rfl)) (h := ?_)
                refine pp_ (i := 9) (N := some 112) #[true, true, true, true, true, true, true, false, true, true, false, false, false, false, false, false, false] rfl rfl (any_of HT_.out (by kernel_rfl)) (h := ?_)
                refine take_ (i := 7) (N := some 110) (v := ?_) (a' := ?_) #[true, true, true, true, true, true, true, true, true, true, false, false, false, false, false, false, false] rfl rfl (take_ofW HT_.out HW_.out (by kernel_rfl)) (fun _ _ _ h => h) (Or.inl ⟨by rfl, ?_⟩) hHeld ?_ ?_
                rotate_left
                ·intro w' _
                 go_simp
                 with_reducible rfl
                rotate_left
                ·simp only [Act.put, List.setIfInBounds_toArray, List.set_cons_zero, List.set_cons_succ, i64_w, i32_w]
                 rfl
                refine take_ (i := 10) (N := some 113) (v := ?_) (a' := ?_) #[true, true, true, true, true, true, true, true, true, true, true, false, false, false, false, false, false] rfl rfl (take_ofW HT_.out HW_.out (by kernel_rfl)) (fun _ _ _ h => h) (Or.inl ⟨by rfl, ?_⟩) hHeld ?_ ?_
                rotate_left
                ·intro w' _
                 go_simp
                 with_reducible rfl
                rotate_left
                ·simp only [Act.put, List.setIfInBounds_toArray, List.set_cons_zero, List.set_cons_succ, i64_w, i32_w]
                 rfl
                refine pp_ (i := 11) (N := some 114) #[true, true, true, true, true, true, true, true, true, true, true, true, false, false, false, false, false] rfl rfl (any_of HT_.out (by kernel_rfl)) (h := ?_)
                refine pp_ (i := 12) (N := some 115) #[true, true, true, true, true, true, true, true, true, true, true, true, true, false, false, false, false] rfl rfl (any_of HT_.out (by kernel_rfl)) (h := ?_)
                refine pp_ (i := 13) (N := some 116) #[true, true, true, true, true, true, true, true, true, true, true, true, true, true, false, false, false] rfl rfl (any_of HT_.out (by kernel_rfl)) (h := ?_)
                refine one_ (i := 14) (N := some 117) #[true, true, true, true, true, true, true, true, true, true, true, true, true, true, true, false, false] rfl rfl (one_of HT_.out (by kernel_rfl)) (by decide) (fun K hK => ?_)
                refine goes_ Try.func30 (by kernel_rfl) rfl #[] (by rfl) rfl rfl (by (try simp only [List.map_toArray, List.map_cons, List.map_nil]); first | done | rfl | (simp only [List.length_drop, List.length_take]; rfl)) ?_
                with_reducible refine (calamuslaw09_lives.calls k3  t180 _ A42.out).mono ?_
                rintro e w44 ⟨rfl, hb⟩
                refine ⟨_, rfl, ?_⟩
                have n0_ := bs_ HB hb
                clear HB
                have HB := n0_
                clear n0_
                (try clear hb)
                (try clear hb2)
                (try clear hk)
                (try clear hi)
                refine hK.out _ _ trivial (fun hHeld => ?_)
                clear hK K
                refine norm_ (a' := ?_) ?_ ?_
                rotate_left
                ·show Act.put _ (some 117) _ = _
                 simp only [Act.put, List.setIfInBounds_toArray, List.set_cons_zero, List.set_cons_succ, i64_w, i32_w]
                 rfl
                refine pp_ (i := 15) (N := some 118) #[true, true, true, true, true, true, true, true, true, true, true, true, true, true, true, true, false] rfl rfl (any_of HT_.out (by kernel_rfl)) (h := ?_)
                refine pp_ (i := 16) (N := some 8) #[true, true, true, true, true, true, true, true, true, true, true, true, true, true, true, true, true] rfl rfl (any_of HT_.out (by kernel_rfl)) (h := ?_)
                refine done_ (done_of HT_.out (by kernel_rfl)) ?_
                try go_wp2
                go_ret
                exact ⟨er_, hb_ HB⟩
               ·rw [if_neg c41] at H
                have c41b0 : ((bt t171 t174) == (bt a0 a2)) = false := beq_eq_false_iff_ne.mpr c41
                have c41b1 : ((bt t171 t174) != (bt a0 a2)) = true := bne_iff_ne.mpr c41
                exact nf_ H hr_
              ·rw [if_neg c39] at H
               exact absurd H (by simp)
             ·rw [if_neg c38] at H
              exact absurd H (by simp)
            ·rw [if_neg c36] at H
             exact absurd H (by simp)
           ·rw [if_neg c35] at H
            have c35b0 : decide (t174 < (t171.size : Int)) = false := decide_eq_false c35
            clear c35
            exact nf_ H hr_
    ·rw [if_neg c16] at H
     have c16b0 : (t172 == 0) = false := beq_eq_false_iff_ne.mpr c16
     have c16b1 : (t172 != 0) = true := bne_iff_ne.mpr c16
     replace H := Option.bind_eq_some_iff.mp H
     obtain ⟨t173, A470, H⟩ := H
     replace H : (some t173) = some r := H
     have A47 := Aside0.mk A470
     clear A470
     obtain rfl := Option.some.inj H
     go_wp2_with (first | ((with_reducible refine gate_callee (f := 31) rfl ?_); refine ge_ (some 48) rfl rfl Try.func31 (by kernel_rfl) rfl #[.string a0, .slice A1 l1.length c1] rfl (h := ?_); (with_reducible refine (batch_Do.calls kj4 a0 _ _ l1 t171 t172 _ ?side1 ?side2 A15.out).mono ?_); (case side1 => exact cw_ (Kd.C_below HR1.out HB.out)); (case side2 => exact HC1.out); rintro e w48 ⟨rfl, hb⟩; refine ⟨_, rfl, ?_⟩; replace HB := bs_ HB hb; (try clear hb); (try clear hb2); (try clear hk); (try clear hi)) | ((with_reducible refine gate_callee (f := 30) rfl ?_); refine ge_ (some 53) rfl rfl Try.func30 (by kernel_rfl) rfl #[] rfl (h := ?_); (with_reducible refine (calamuslaw09_lives.calls kj4  t173 _ A47.out).mono ?_); rintro e w49 ⟨rfl, hb⟩; refine ⟨_, rfl, ?_⟩; replace HB := bs_ HB hb; (try clear hb); (try clear hb2); (try clear hk); (try clear hi)))
     go_ret
     exact ⟨er_, hb_ HB⟩

end Go.Proofs.Ytkiokimpblimcaa.PBatchPlaces
