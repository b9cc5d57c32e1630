/- Of the law calamus/calamuslaw01.CodeBack: each function as a plain Lean function, with a proof that the call comes to it; the row. By wip/tpl/own_print.py. Conditions: none but the row's own. -/
import Derived.Test.YtjobaaolohemgaaOCodeBackx0
import Derived.Test.YtjobaaolohemgaaOCodeBackx1
import Derived.Test.YtjobaaolohemgaaOCodeBackx2
namespace Go.Proofs.Ytjobaaolohemgaa.PCodeBack
open Go.RowKit Go.Proofs.YtjobaaolohemgaaW.PrintWords Go.Proofs.YtjobaaolohemgaaW.PrintLast Go.Proofs.YtjobaaolohemgaaW.PrintMore
attribute [local go_sem] max2_int min2_int max_two min_two max_three min_three max_four min_four   -- for this text's walks alone
set_option linter.unusedVariables false
set_option linter.unusedSimpArgs false

/-! ### calamuslaw01_CodeBack: function 5 -/
mutual
def calamuslaw01_CodeBack.j0 : Nat → ByteArray → List Int → ByteArray → ByteArray → Bool → ByteArray → Int → Option (Bool)
 | 0, _, _, _, _, _, _, _ => none
 | k + 1, x1, x2, x3, x11, x36, x152000, x152001 => if x36 = true then (some false) else ((code_Reader_Text.f x152000 x152001 (x1.size : Int)).bind fun bt155 => (if bt155.1.toList = x1.toList then (if x11.toList = ([] : List UInt8) then ((code_Reader_Left.f bt155.2.1 bt155.2.2).bind fun bt158 => (if bt158.1 = (x3.size : Int) then ((code_Reader_Err.f bt158.2.1 bt158.2.2).bind fun bt161 => (if bt161.1 = 0 then ((calamuslaw01_lives.f k).bind fun t164 => (some t164)) else (some false))) else (some false))) else ((code_Reader_Nums.f k bt155.2.1 bt155.2.2 (x2.length : Int)).bind fun bt165 => (if (bt165.1.length : Int) = (x2.length : Int) then (calamuslaw01_CodeBack.l0 k x2 x3 bt165.1 0 bt165.2.1 bt165.2.2) else (some false)))) else (some false)))
def calamuslaw01_CodeBack.l0 : Nat → List Int → ByteArray → List Int → Int → ByteArray → Int → Option (Bool)
 | 0, _, _, _, _, _, _ => none
 | k + 1, x2, x3, x13, x14, x152000, x152001 => if x14 < (x2.length : Int) then (if 0 ≤ x14 then (if x14 < (x13.length : Int) then (if (rd x13 x14) = (rd x2 x14) then (calamuslaw01_CodeBack.l0 k x2 x3 x13 (wrap64 (x14 + 1)) x152000 x152001) else (some false)) else (none)) else (none)) else ((code_Reader_Left.f x152000 x152001).bind fun bt172 => (if bt172.1 = (x3.size : Int) then ((code_Reader_Err.f bt172.2.1 bt172.2.2).bind fun bt175 => (if bt175.1 = 0 then ((calamuslaw01_lives.f k).bind fun t178 => (some t178)) else (some false))) else (some false)))
end
def calamuslaw01_CodeBack.f (k : Nat) (a0 : Int) (a1 : ByteArray) (l2 : List Int) (a3 : ByteArray) : Option (Bool) := (code_Num.f k a0).bind fun t146 => ((code_Text.f k a1).bind fun t147 => ((code_Nums.f k l2).bind fun t148 => (if t146.size + t147.size ≤ 9223372036854775807 then (if (t146 ++ t147).size + t148.size ≤ 9223372036854775807 then (if ((t146 ++ t147) ++ t148).size + a3.size ≤ 9223372036854775807 then ((code_NewReader.f (((t146 ++ t147) ++ t148) ++ a3)).bind fun bt149 => (if t146.toList = ([] : List UInt8) then (calamuslaw01_CodeBack.j0 k a1 l2 a3 t148 false bt149.1 bt149.2) else ((code_Reader_Num.f bt149.1 bt149.2).bind fun bt152 => (calamuslaw01_CodeBack.j0 k a1 l2 a3 t148 (bt152.1 != a0) bt152.2.1 bt152.2.2)))) else (none)) else (none)) else (none))))
theorem calamuslaw01_CodeBack.mono_l : ∀ k, (∀ y0 y1 y2 y3 y4 y5 y6, LeO (calamuslaw01_CodeBack.j0 k y0 y1 y2 y3 y4 y5 y6) (calamuslaw01_CodeBack.j0 (k + 1) y0 y1 y2 y3 y4 y5 y6)) ∧ (∀ y0 y1 y2 y3 y4 y5, LeO (calamuslaw01_CodeBack.l0 k y0 y1 y2 y3 y4 y5) (calamuslaw01_CodeBack.l0 (k + 1) y0 y1 y2 y3 y4 y5))
 | 0 => ⟨fun _ _ _ _ _ _ _ r h => by simp [calamuslaw01_CodeBack.j0] at h, fun _ _ _ _ _ _ r h => by simp [calamuslaw01_CodeBack.l0] at h⟩
 | k + 1 => by
  obtain ⟨ih0, ih1⟩ := calamuslaw01_CodeBack.mono_l k
  refine ⟨?_, ?_⟩
  ·intro y0 y1 y2 y3 y4 y5 y6
   unfold calamuslaw01_CodeBack.j0
   repeat' first
   | (with_reducible exact ih0 _ _ _ _ _ _ _)
   | (with_reducible exact ih1 _ _ _ _ _ _)
   | (with_reducible exact calamuslaw01_lives.mono _)
   | (with_reducible exact code_Num.mono _ _)
   | (with_reducible exact code_Nums.mono _ _)
   | (with_reducible exact code_Reader_Nums.mono _ _ _ _)
   | (with_reducible exact code_Text.mono _ _)
   | (with_reducible exact LeO.refl _)
   | (with_reducible exact LeO.none _)
   | (with_reducible refine LeO.ite ?_ ?_)
   | (with_reducible refine LeO.bind ?_ (fun _ => ?_))
   | exact ih0 _ _ _ _ _ _ _
   | exact ih1 _ _ _ _ _ _
   | exact calamuslaw01_lives.mono _
   | exact code_Num.mono _ _
   | exact code_Nums.mono _ _
   | exact code_Reader_Nums.mono _ _ _ _
   | exact code_Text.mono _ _
   | exact LeO.none _
   | refine LeO.ite ?_ ?_
   | refine LeO.bind ?_ (fun _ => ?_)
  ·intro y0 y1 y2 y3 y4 y5
   unfold calamuslaw01_CodeBack.l0
   repeat' first
   | (with_reducible exact ih0 _ _ _ _ _ _ _)
   | (with_reducible exact ih1 _ _ _ _ _ _)
   | (with_reducible exact calamuslaw01_lives.mono _)
   | (with_reducible exact code_Num.mono _ _)
   | (with_reducible exact code_Nums.mono _ _)
   | (with_reducible exact code_Reader_Nums.mono _ _ _ _)
   | (with_reducible exact code_Text.mono _ _)
   | (with_reducible exact LeO.refl _)
   | (with_reducible exact LeO.none _)
   | (with_reducible refine LeO.ite ?_ ?_)
   | (with_reducible refine LeO.bind ?_ (fun _ => ?_))
   | exact ih0 _ _ _ _ _ _ _
   | exact ih1 _ _ _ _ _ _
   | exact calamuslaw01_lives.mono _
   | exact code_Num.mono _ _
   | exact code_Nums.mono _ _
   | exact code_Reader_Nums.mono _ _ _ _
   | exact code_Text.mono _ _
   | exact LeO.none _
   | refine LeO.ite ?_ ?_
   | refine LeO.bind ?_ (fun _ => ?_)
theorem calamuslaw01_CodeBack.mono : ∀ a0 a1 a2 a3 k, LeO (calamuslaw01_CodeBack.f k a0 a1 a2 a3) (calamuslaw01_CodeBack.f (k + 1) a0 a1 a2 a3) := by
 intro a0 a1 a2 a3 k
 obtain ⟨ih0, ih1⟩ := calamuslaw01_CodeBack.mono_l k
 unfold calamuslaw01_CodeBack.f
 repeat' first
   | (with_reducible exact ih0 _ _ _ _ _ _ _)
   | (with_reducible exact ih1 _ _ _ _ _ _)
   | (with_reducible exact calamuslaw01_lives.mono _)
   | (with_reducible exact code_Num.mono _ _)
   | (with_reducible exact code_Nums.mono _ _)
   | (with_reducible exact code_Reader_Nums.mono _ _ _ _)
   | (with_reducible exact code_Text.mono _ _)
   | (with_reducible exact LeO.refl _)
   | (with_reducible exact LeO.none _)
   | (with_reducible refine LeO.ite ?_ ?_)
   | (with_reducible refine LeO.bind ?_ (fun _ => ?_))
   | exact ih0 _ _ _ _ _ _ _
   | exact ih1 _ _ _ _ _ _
   | exact calamuslaw01_lives.mono _
   | exact code_Num.mono _ _
   | exact code_Nums.mono _ _
   | exact code_Reader_Nums.mono _ _ _ _
   | exact code_Text.mono _ _
   | exact LeO.none _
   | refine LeO.ite ?_ ?_
   | refine LeO.bind ?_ (fun _ => ?_)
set_option maxHeartbeats 8000000 in
set_option maxRecDepth 100000 in
theorem calamuslaw01_CodeBack.calls (k : Nat) (a0 : Int) (a1 : ByteArray) (A2 : Option Addr) (c2 : Nat) (l2 : List Int) (a3 : ByteArray) (r : Bool) (w : World) (hr2 : Kd.C (Kd.int .i64) w A2 l2.length l2) (hc2 : l2.length ≤ c2) (h : calamuslaw01_CodeBack.f k a0 a1 l2 a3 = some r) (hr_ : r = true := by rfl) :
  Calls Try.prog 5 #[.int .i64 a0, .string a1, .slice A2 l2.length c2, .string a3] w fun e w' => e = .returned (.bool r) ∧ Below w.heap.size w w' := by
 have HR2 := Aside0.mk hr2
 have HC2 := Aside0.mk hc2
 clear hr2 hc2
 have HB := Aside0.mk (Below.refl w.heap.size w)
 have H : ((code_Num.f k a0).bind fun t146 => ((code_Text.f k a1).bind fun t147 => ((code_Nums.f k l2).bind fun t148 => (if t146.size + t147.size ≤ 9223372036854775807 then (if (t146 ++ t147).size + t148.size ≤ 9223372036854775807 then (if ((t146 ++ t147) ++ t148).size + a3.size ≤ 9223372036854775807 then ((code_NewReader.f (((t146 ++ t147) ++ t148) ++ a3)).bind fun bt149 => (if t146.toList = ([] : List UInt8) then (calamuslaw01_CodeBack.j0 k a1 l2 a3 t148 false bt149.1 bt149.2) else ((code_Reader_Num.f bt149.1 bt149.2).bind fun bt152 => (calamuslaw01_CodeBack.j0 k a1 l2 a3 t148 (bt152.1 != a0) bt152.2.1 bt152.2.2)))) else (none)) else (none)) else (none))))) = some r := h
 clear h
 replace H := Option.bind_eq_some_iff.mp H
 obtain ⟨t146, A50, H⟩ := H
 replace H : ((code_Text.f k a1).bind fun t147 => ((code_Nums.f k l2).bind fun t148 => (if t146.size + t147.size ≤ 9223372036854775807 then (if (t146 ++ t147).size + t148.size ≤ 9223372036854775807 then (if ((t146 ++ t147) ++ t148).size + a3.size ≤ 9223372036854775807 then ((code_NewReader.f (((t146 ++ t147) ++ t148) ++ a3)).bind fun bt149 => (if t146.toList = ([] : List UInt8) then (calamuslaw01_CodeBack.j0 k a1 l2 a3 t148 false bt149.1 bt149.2) else ((code_Reader_Num.f bt149.1 bt149.2).bind fun bt152 => (calamuslaw01_CodeBack.j0 k a1 l2 a3 t148 (bt152.1 != a0) bt152.2.1 bt152.2.2)))) else (none)) else (none)) else (none)))) = some r := H
 have A5 := Aside0.mk A50
 clear A50
 replace H := Option.bind_eq_some_iff.mp H
 obtain ⟨t147, A60, H⟩ := H
 replace H : ((code_Nums.f k l2).bind fun t148 => (if t146.size + t147.size ≤ 9223372036854775807 then (if (t146 ++ t147).size + t148.size ≤ 9223372036854775807 then (if ((t146 ++ t147) ++ t148).size + a3.size ≤ 9223372036854775807 then ((code_NewReader.f (((t146 ++ t147) ++ t148) ++ a3)).bind fun bt149 => (if t146.toList = ([] : List UInt8) then (calamuslaw01_CodeBack.j0 k a1 l2 a3 t148 false bt149.1 bt149.2) else ((code_Reader_Num.f bt149.1 bt149.2).bind fun bt152 => (calamuslaw01_CodeBack.j0 k a1 l2 a3 t148 (bt152.1 != a0) bt152.2.1 bt152.2.2)))) else (none)) else (none)) else (none))) = some r := H
 have A6 := Aside0.mk A60
 clear A60
 replace H := Option.bind_eq_some_iff.mp H
 obtain ⟨t148, A70, H⟩ := H
 replace H : (if t146.size + t147.size ≤ 9223372036854775807 then (if (t146 ++ t147).size + t148.size ≤ 9223372036854775807 then (if ((t146 ++ t147) ++ t148).size + a3.size ≤ 9223372036854775807 then ((code_NewReader.f (((t146 ++ t147) ++ t148) ++ a3)).bind fun bt149 => (if t146.toList = ([] : List UInt8) then (calamuslaw01_CodeBack.j0 k a1 l2 a3 t148 false bt149.1 bt149.2) else ((code_Reader_Num.f bt149.1 bt149.2).bind fun bt152 => (calamuslaw01_CodeBack.j0 k a1 l2 a3 t148 (bt152.1 != a0) bt152.2.1 bt152.2.2)))) else (none)) else (none)) else (none)) = some r := H
 have A7 := Aside0.mk A70
 clear A70
 by_cases c8 : t146.size + t147.size ≤ 9223372036854775807
 ·rw [if_pos c8] at H
  have c8b0 := eq_true c8
  try (have c8b0x := c8b0; simp only [ByteArray.size_extract, Nat.min_self] at c8b0x)
  have c8b1 : decide (t146.size + t147.size ≤ 9223372036854775807) = true := decide_eq_true c8
  try have c8b2 : (9223372036854775807 < t146.size + t147.size) = False := eq_false (Nat.not_lt.2 c8)
  by_cases c9 : (t146 ++ t147).size + t148.size ≤ 9223372036854775807
  ·rw [if_pos c9] at H
   have c9b0 := eq_true c9
   try (have c9b0x := c9b0; simp only [ByteArray.size_extract, Nat.min_self] at c9b0x)
   have c9b1 : decide ((t146 ++ t147).size + t148.size ≤ 9223372036854775807) = true := decide_eq_true c9
   try (have c9b1x := c9b1; simp [-decide_eq_true_eq, -decide_eq_false_iff_not, c8b0, c9b0] at c9b1x)
   try have c9b2 : (9223372036854775807 < (t146 ++ t147).size + t148.size) = False := eq_false (Nat.not_lt.2 c9)
   by_cases c10 : ((t146 ++ t147) ++ t148).size + a3.size ≤ 9223372036854775807
   ·rw [if_pos c10] at H
    have c10b0 := eq_true c10
    try (have c10b0x := c10b0; simp only [ByteArray.size_extract, Nat.min_self] at c10b0x)
    have c10b1 : decide (((t146 ++ t147) ++ t148).size + a3.size ≤ 9223372036854775807) = true := decide_eq_true c10
    try (have c10b1x := c10b1; simp [-decide_eq_true_eq, -decide_eq_false_iff_not, c8b0, c9b0, c10b0] at c10b1x)
    try have c10b2 : (9223372036854775807 < ((t146 ++ t147) ++ t148).size + a3.size) = False := eq_false (Nat.not_lt.2 c10)
    replace H := Option.bind_eq_some_iff.mp H
    obtain ⟨⟨t149, t150⟩, A110, H⟩ := H
    replace H : (if t146.toList = ([] : List UInt8) then (calamuslaw01_CodeBack.j0 k a1 l2 a3 t148 false t149 t150) else ((code_Reader_Num.f t149 t150).bind fun bt152 => (calamuslaw01_CodeBack.j0 k a1 l2 a3 t148 (bt152.1 != a0) bt152.2.1 bt152.2.2))) = some r := H
    have A11 := Aside0.mk A110
    clear A110
    have HC12 := Aside0.mk H
    clear H
    go_enter Try.func5, Try.ntmps5
    go_upto_region 3 with (first | (go_at_call 14; (with_reducible refine (code_Num.calls k a0 t146 _ A5.out).mono ?_); rintro e w13 ⟨rfl, hb⟩; replace HB := bs_ HB hb; (try clear hb); (try clear hb2); (try clear hk); (try clear hi)) | (go_at_call 16; (with_reducible refine (code_Text.calls k a1 t147 _ A6.out).mono ?_); rintro e w14 ⟨rfl, hb⟩; replace HB := bs_ HB hb; (try clear hb); (try clear hb2); (try clear hk); (try clear hi)) | (go_at_call 18; (with_reducible refine (code_Nums.calls k _ _ l2 t148 _ ?side1 ?side2 A7.out).mono ?_); (case side1 => exact cw_ (Kd.C_below HR2.out HB.out)); (case side2 => exact HC2.out); rintro e w15 ⟨rfl, hb⟩; replace HB := bs_ HB hb; (try clear hb); (try clear hb2); (try clear hk); (try clear hi)) | (go_at_call 21; (with_reducible refine (code_NewReader.calls (((t146 ++ t147) ++ t148) ++ a3) t149 t150 w _ ?side1 A11.out).mono ?_); (case side1 => repeat (first | (with_reducible first | exact HB.out | apply below_alloc | apply pw_below_drewN | apply below_drew1) | exact HB.out)); rintro e w16 ⟨g151, rfl, hi, hb, hb2⟩; have HI151 := Aside0.mk (hi); replace HB := Aside0.mk (hb); (try clear hb); (try clear hb2); (try clear hk); (try clear hi)))
    repeat (go_quiet (first | (go_at_call 14; (with_reducible refine (code_Num.calls k a0 t146 _ A5.out).mono ?_); rintro e w13 ⟨rfl, hb⟩; replace HB := bs_ HB hb; (try clear hb); (try clear hb2); (try clear hk); (try clear hi)) | (go_at_call 16; (with_reducible refine (code_Text.calls k a1 t147 _ A6.out).mono ?_); rintro e w14 ⟨rfl, hb⟩; replace HB := bs_ HB hb; (try clear hb); (try clear hb2); (try clear hk); (try clear hi)) | (go_at_call 18; (with_reducible refine (code_Nums.calls k _ _ l2 t148 _ ?side1 ?side2 A7.out).mono ?_); (case side1 => exact cw_ (Kd.C_below HR2.out HB.out)); (case side2 => exact HC2.out); rintro e w15 ⟨rfl, hb⟩; replace HB := bs_ HB hb; (try clear hb); (try clear hb2); (try clear hk); (try clear hi)) | (go_at_call 21; (with_reducible refine (code_NewReader.calls (((t146 ++ t147) ++ t148) ++ a3) t149 t150 w _ ?side1 A11.out).mono ?_); (case side1 => repeat (first | (with_reducible first | exact HB.out | apply below_alloc | apply pw_below_drewN | apply below_drew1) | exact HB.out)); rintro e w16 ⟨g151, rfl, hi, hb, hb2⟩; have HI151 := Aside0.mk (hi); replace HB := Aside0.mk (hb); (try clear hb); (try clear hb2); (try clear hk); (try clear hi))); go_upto_region 3 with (first | (go_at_call 14; (with_reducible refine (code_Num.calls k a0 t146 _ A5.out).mono ?_); rintro e w13 ⟨rfl, hb⟩; replace HB := bs_ HB hb; (try clear hb); (try clear hb2); (try clear hk); (try clear hi)) | (go_at_call 16; (with_reducible refine (code_Text.calls k a1 t147 _ A6.out).mono ?_); rintro e w14 ⟨rfl, hb⟩; replace HB := bs_ HB hb; (try clear hb); (try clear hb2); (try clear hk); (try clear hi)) | (go_at_call 18; (with_reducible refine (code_Nums.calls k _ _ l2 t148 _ ?side1 ?side2 A7.out).mono ?_); (case side1 => exact cw_ (Kd.C_below HR2.out HB.out)); (case side2 => exact HC2.out); rintro e w15 ⟨rfl, hb⟩; replace HB := bs_ HB hb; (try clear hb); (try clear hb2); (try clear hk); (try clear hi)) | (go_at_call 21; (with_reducible refine (code_NewReader.calls (((t146 ++ t147) ++ t148) ++ a3) t149 t150 w _ ?side1 A11.out).mono ?_); (case side1 => repeat (first | (with_reducible first | exact HB.out | apply below_alloc | apply pw_below_drewN | apply below_drew1) | exact HB.out)); rintro e w16 ⟨g151, rfl, hi, hb, hb2⟩; have HI151 := Aside0.mk (hi); replace HB := Aside0.mk (hb); (try clear hb); (try clear hb2); (try clear hk); (try clear hi))))
    (try simp only [Act.put, List.setIfInBounds_toArray, List.set_cons_zero, List.set_cons_succ])
    go_cut [36] (fun v36 wc => ∃ (kq : Nat) (x36_11 : Bool) (x152000_11 : ByteArray) (x152001_11 : Int), v36 = .bool x36_11 ∧ Aside0 (calamuslaw01_CodeBack.j0 kq a1 l2 a3 t148 x36_11 x152000_11 x152001_11 = some r) ∧ Aside0 (kq ≤ k) ∧ Aside0 (IsS45 w wc g151 x152000_11 x152001_11) ∧ Aside0 (Below w.heap.size w wc))
    case first =>
     have H := HC12.out
     clear HC12
     by_cases c17 : t146.toList = ([] : List UInt8)
     ·rw [if_pos c17] at H
      have c17b0 : (t146.toList == ([] : List UInt8)) = true := beq_iff_eq.mpr c17
      have c17b1 : (t146.toList != ([] : List UInt8)) = false := bne_eq_false_iff_eq.mpr c17
      clear c17
      (first | rw [c17b0] | (simp only [i64_w, i32_w]; rw [c17b0]) | skip)
      have H' := Aside0.mk H
      clear H
      go_wp2
      repeat (go_quiet (fail); try go_wp2)
      go_meet
      case rel => exact ⟨_, (false), (t149), (t150), es_, H', ⟨by first | omega | exact Nat.le_refl _⟩, ⟨by repeat (first | (with_reducible first | exact HI151.out | apply IsS45.alloc | apply IsS45.drewN | apply IsS45.drew | apply IsS45.set_0 | apply IsS45.set_1) | exact HI151.out)⟩, ⟨by repeat (first | (with_reducible first | exact HB.out | apply below_alloc | apply pw_below_drewN | apply below_drew1 | refine below_set ?_ (IsS45.ge HI151.out)) | exact HB.out)⟩⟩
     ·rw [if_neg c17] at H
      have c17b0 : (t146.toList == ([] : List UInt8)) = false := beq_eq_false_iff_ne.mpr c17
      have c17b1 : (t146.toList != ([] : List UInt8)) = true := bne_iff_ne.mpr c17
      (first | rw [c17b0] | (simp only [i64_w, i32_w]; rw [c17b0]) | skip)
      replace H := Option.bind_eq_some_iff.mp H
      obtain ⟨⟨t152, t153, t154⟩, A180, H⟩ := H
      replace H : (calamuslaw01_CodeBack.j0 k a1 l2 a3 t148 (t152 != a0) t153 t154) = some r := H
      have A18 := Aside0.mk A180
      clear A180
      have H' := Aside0.mk H
      clear H
      go_wp2_with (first | (go_at_call 22; (with_reducible refine (code_Reader_Num.calls g151 t149 t150 t152 t153 t154 w _ ?side1 ?side2 A18.out).mono ?_); (case side1 => repeat (first | (with_reducible first | exact HI151.out | apply IsS45.alloc | apply IsS45.drewN | apply IsS45.drew | apply IsS45.set_0 | apply IsS45.set_1) | exact HI151.out)); (case side2 => repeat (first | (with_reducible first | exact HB.out | apply below_alloc | apply pw_below_drewN | apply below_drew1 | refine below_set ?_ (IsS45.ge HI151.out)) | exact HB.out)); rintro e w19 ⟨rfl, hi, hb, hk⟩; replace HB := Aside0.mk (hb); replace HI151 := Aside0.mk (hi); (try clear hb); (try clear hb2); (try clear hk); (try clear hi)))
      repeat (go_quiet (first | (go_at_call 22; (with_reducible refine (code_Reader_Num.calls g151 t149 t150 t152 t153 t154 w _ ?side1 ?side2 A18.out).mono ?_); (case side1 => repeat (first | (with_reducible first | exact HI151.out | apply IsS45.alloc | apply IsS45.drewN | apply IsS45.drew | apply IsS45.set_0 | apply IsS45.set_1) | exact HI151.out)); (case side2 => repeat (first | (with_reducible first | exact HB.out | apply below_alloc | apply pw_below_drewN | apply below_drew1 | refine below_set ?_ (IsS45.ge HI151.out)) | exact HB.out)); rintro e w19 ⟨rfl, hi, hb, hk⟩; replace HB := Aside0.mk (hb); replace HI151 := Aside0.mk (hi); (try clear hb); (try clear hb2); (try clear hk); (try clear hi))); try go_wp2_with (first | (go_at_call 22; (with_reducible refine (code_Reader_Num.calls g151 t149 t150 t152 t153 t154 w _ ?side1 ?side2 A18.out).mono ?_); (case side1 => repeat (first | (with_reducible first | exact HI151.out | apply IsS45.alloc | apply IsS45.drewN | apply IsS45.drew | apply IsS45.set_0 | apply IsS45.set_1) | exact HI151.out)); (case side2 => repeat (first | (with_reducible first | exact HB.out | apply below_alloc | apply pw_below_drewN | apply below_drew1 | refine below_set ?_ (IsS45.ge HI151.out)) | exact HB.out)); rintro e w19 ⟨rfl, hi, hb, hk⟩; replace HB := Aside0.mk (hb); replace HI151 := Aside0.mk (hi); (try clear hb); (try clear hb2); (try clear hk); (try clear hi))))
      go_meet
      case rel => exact ⟨_, ((t152 != a0)), (t153), (t154), es_, H', ⟨by first | omega | exact Nat.le_refl _⟩, ⟨by repeat (first | (with_reducible first | exact HI151.out | apply IsS45.alloc | apply IsS45.drewN | apply IsS45.drew | apply IsS45.set_0 | apply IsS45.set_1) | exact HI151.out)⟩, ⟨by repeat (first | (with_reducible first | exact HB.out | apply below_alloc | apply pw_below_drewN | apply below_drew1 | refine below_set ?_ (IsS45.ge HI151.out)) | exact HB.out)⟩⟩
    case rest =>
     clear HC12
     try clear c8
     try clear c8b0
     try clear c8b1
     try clear c8b2
     try clear c9
     try clear c9b0
     try clear c9b1
     try clear c9b2
     try clear c10
     try clear c10b0
     try clear c10b1
     try clear c10b2
     obtain ⟨kq, x36_11, x152000_11, x152001_11, rfl, HA, HJ11, HI151, HB⟩ := hcut
     cases kq with
     | zero => exact absurd HA.out (by simp [calamuslaw01_CodeBack.j0])
     | succ kj11 =>
      have H := HA.out
      clear HA
      simp only [calamuslaw01_CodeBack.j0] at H
      by_cases c20 : x36_11 = true
      ·subst c20
       have H1 : (some false) = some r := by rw [if_pos rfl] at H; exact H
       clear H
       have H := H1
       clear H1
       exact nf_ H hr_
      ·replace c20 := Bool.eq_false_iff.mpr c20
       subst c20
       have H1 : ((code_Reader_Text.f x152000_11 x152001_11 (a1.size : Int)).bind fun bt155 => (if bt155.1.toList = a1.toList then (if t148.toList = ([] : List UInt8) then ((code_Reader_Left.f bt155.2.1 bt155.2.2).bind fun bt158 => (if bt158.1 = (a3.size : Int) then ((code_Reader_Err.f bt158.2.1 bt158.2.2).bind fun bt161 => (if bt161.1 = 0 then ((calamuslaw01_lives.f kj11).bind fun t164 => (some t164)) else (some false))) else (some false))) else ((code_Reader_Nums.f kj11 bt155.2.1 bt155.2.2 (l2.length : Int)).bind fun bt165 => (if (bt165.1.length : Int) = (l2.length : Int) then (calamuslaw01_CodeBack.l0 kj11 l2 a3 bt165.1 0 bt165.2.1 bt165.2.2) else (some false)))) else (some false))) = some r := by rw [if_neg (show ¬ (false = true) by decide)] at H; exact H
       clear H
       have H := H1
       clear H1
       replace H := Option.bind_eq_some_iff.mp H
       obtain ⟨⟨t155, t156, t157⟩, A210, H⟩ := H
       replace H : (if t155.toList = a1.toList then (if t148.toList = ([] : List UInt8) then ((code_Reader_Left.f t156 t157).bind fun bt158 => (if bt158.1 = (a3.size : Int) then ((code_Reader_Err.f bt158.2.1 bt158.2.2).bind fun bt161 => (if bt161.1 = 0 then ((calamuslaw01_lives.f kj11).bind fun t164 => (some t164)) else (some false))) else (some false))) else ((code_Reader_Nums.f kj11 t156 t157 (l2.length : Int)).bind fun bt165 => (if (bt165.1.length : Int) = (l2.length : Int) then (calamuslaw01_CodeBack.l0 kj11 l2 a3 bt165.1 0 bt165.2.1 bt165.2.2) else (some false)))) else (some false)) = some r := H
       have A21 := Aside0.mk A210
       clear A210
       by_cases c22 : t155.toList = a1.toList
       ·rw [if_pos c22] at H
        have c22b0 : (t155.toList == a1.toList) = true := beq_iff_eq.mpr c22
        have c22b1 : (t155.toList != a1.toList) = false := bne_eq_false_iff_eq.mpr c22
        clear c22
        by_cases c23 : t148.toList = ([] : List UInt8)
        ·rw [if_pos c23] at H
         have c23b0 : (t148.toList == ([] : List UInt8)) = true := beq_iff_eq.mpr c23
         have c23b1 : (t148.toList != ([] : List UInt8)) = false := bne_eq_false_iff_eq.mpr c23
         clear c23
         replace H := Option.bind_eq_some_iff.mp H
         obtain ⟨⟨t158, t159, t160⟩, A240, H⟩ := H
         replace H : (if t158 = (a3.size : Int) then ((code_Reader_Err.f t159 t160).bind fun bt161 => (if bt161.1 = 0 then ((calamuslaw01_lives.f kj11).bind fun t164 => (some t164)) else (some false))) else (some false)) = some r := H
         have A24 := Aside0.mk A240
         clear A240
         by_cases c25 : t158 = (a3.size : Int)
         ·rw [if_pos c25] at H
          have c25b0 : (t158 == (a3.size : Int)) = true := beq_iff_eq.mpr c25
          have c25b1 : (t158 != (a3.size : Int)) = false := bne_eq_false_iff_eq.mpr c25
          clear c25
          replace H := Option.bind_eq_some_iff.mp H
          obtain ⟨⟨t161, t162, t163⟩, A260, H⟩ := H
          replace H : (if t161 = 0 then ((calamuslaw01_lives.f kj11).bind fun t164 => (some t164)) else (some false)) = some r := H
          have A26 := Aside0.mk A260
          clear A260
          by_cases c27 : t161 = 0
          ·rw [if_pos c27] at H
           have c27b0 : (t161 == 0) = true := beq_iff_eq.mpr c27
           have c27b1 : (t161 != 0) = false := bne_eq_false_iff_eq.mpr c27
           clear c27
           replace H := Option.bind_eq_some_iff.mp H
           obtain ⟨t164, A280, H⟩ := H
           replace H : (some t164) = some r := H
           have A28 := Aside0.mk A280
           clear A280
           obtain rfl := Option.some.inj H
           go_wp2_with (first | (go_at_call 24; (with_reducible refine (code_Reader_Text.calls g151 x152000_11 x152001_11 (a1.size : Int) t155 t156 t157 w _ ?side1 ?side2 A21.out).mono ?_); (case side1 => repeat (first | (with_reducible first | exact HI151.out | apply IsS45.alloc | apply IsS45.drewN | apply IsS45.drew | apply IsS45.set_0 | apply IsS45.set_1) | exact HI151.out)); (case side2 => repeat (first | (with_reducible first | exact HB.out | apply below_alloc | apply pw_below_drewN | apply below_drew1 | refine below_set ?_ (IsS45.ge HI151.out)) | exact HB.out)); rintro e w29 ⟨rfl, hi, hb, hk⟩; replace HB := Aside0.mk (hb); replace HI151 := Aside0.mk (hi); (try clear hb); (try clear hb2); (try clear hk); (try clear hi)) | (go_at_call 29; (with_reducible refine (code_Reader_Left.calls g151 t156 t157 t158 t159 t160 w _ ?side1 ?side2 A24.out).mono ?_); (case side1 => repeat (first | (with_reducible first | exact HI151.out | apply IsS45.alloc | apply IsS45.drewN | apply IsS45.drew | apply IsS45.set_0 | apply IsS45.set_1) | exact HI151.out)); (case side2 => repeat (first | (with_reducible first | exact HB.out | apply below_alloc | apply pw_below_drewN | apply below_drew1 | refine below_set ?_ (IsS45.ge HI151.out)) | exact HB.out)); rintro e w30 ⟨rfl, hi, hb, hk⟩; replace HB := Aside0.mk (hb); replace HI151 := Aside0.mk (hi); (try clear hb); (try clear hb2); (try clear hk); (try clear hi)) | (go_at_call 30; (with_reducible refine (code_Reader_Err.calls g151 t159 t160 t161 t162 t163 w _ ?side1 ?side2 A26.out).mono ?_); (case side1 => repeat (first | (with_reducible first | exact HI151.out | apply IsS45.alloc | apply IsS45.drewN | apply IsS45.drew | apply IsS45.set_0 | apply IsS45.set_1) | exact HI151.out)); (case side2 => repeat (first | (with_reducible first | exact HB.out | apply below_alloc | apply pw_below_drewN | apply below_drew1 | refine below_set ?_ (IsS45.ge HI151.out)) | exact HB.out)); rintro e w31 ⟨rfl, hi, hb, hk⟩; replace HB := Aside0.mk (hb); replace HI151 := Aside0.mk (hi); (try clear hb); (try clear hb2); (try clear hk); (try clear hi)) | (go_at_call 20; (with_reducible refine (calamuslaw01_lives.calls kj11  t164 _ A28.out).mono ?_); rintro e w32 ⟨rfl, hb⟩; replace HB := Aside0.mk (below_step (by repeat (first | (with_reducible first | exact HB.out | apply below_alloc | apply pw_below_drewN | apply below_drew1 | refine below_set ?_ (IsS45.ge HI151.out)) | exact HB.out)) hb); replace HI151 := Aside0.mk (IsS45.below (by repeat (first | (with_reducible first | exact HI151.out | apply IsS45.alloc | apply IsS45.drewN | apply IsS45.drew | apply IsS45.set_0 | apply IsS45.set_1) | exact HI151.out)) hb); (try clear hb); (try clear hb2); (try clear hk); (try clear hi)))
           repeat (go_quiet (first | (go_at_call 24; (with_reducible refine (code_Reader_Text.calls g151 x152000_11 x152001_11 (a1.size : Int) t155 t156 t157 w _ ?side1 ?side2 A21.out).mono ?_); (case side1 => repeat (first | (with_reducible first | exact HI151.out | apply IsS45.alloc | apply IsS45.drewN | apply IsS45.drew | apply IsS45.set_0 | apply IsS45.set_1) | exact HI151.out)); (case side2 => repeat (first | (with_reducible first | exact HB.out | apply below_alloc | apply pw_below_drewN | apply below_drew1 | refine below_set ?_ (IsS45.ge HI151.out)) | exact HB.out)); rintro e w29 ⟨rfl, hi, hb, hk⟩; replace HB := Aside0.mk (hb); replace HI151 := Aside0.mk (hi); (try clear hb); (try clear hb2); (try clear hk); (try clear hi)) | (go_at_call 29; (with_reducible refine (code_Reader_Left.calls g151 t156 t157 t158 t159 t160 w _ ?side1 ?side2 A24.out).mono ?_); (case side1 => repeat (first | (with_reducible first | exact HI151.out | apply IsS45.alloc | apply IsS45.drewN | apply IsS45.drew | apply IsS45.set_0 | apply IsS45.set_1) | exact HI151.out)); (case side2 => repeat (first | (with_reducible first | exact HB.out | apply below_alloc | apply pw_below_drewN | apply below_drew1 | refine below_set ?_ (IsS45.ge HI151.out)) | exact HB.out)); rintro e w30 ⟨rfl, hi, hb, hk⟩; replace HB := Aside0.mk (hb); replace HI151 := Aside0.mk (hi); (try clear hb); (try clear hb2); (try clear hk); (try clear hi)) | (go_at_call 30; (with_reducible refine (code_Reader_Err.calls g151 t159 t160 t161 t162 t163 w _ ?side1 ?side2 A26.out).mono ?_); (case side1 => repeat (first | (with_reducible first | exact HI151.out | apply IsS45.alloc | apply IsS45.drewN | apply IsS45.drew | apply IsS45.set_0 | apply IsS45.set_1) | exact HI151.out)); (case side2 => repeat (first | (with_reducible first | exact HB.out | apply below_alloc | apply pw_below_drewN | apply below_drew1 | refine below_set ?_ (IsS45.ge HI151.out)) | exact HB.out)); rintro e w31 ⟨rfl, hi, hb, hk⟩; replace HB := Aside0.mk (hb); replace HI151 := Aside0.mk (hi); (try clear hb); (try clear hb2); (try clear hk); (try clear hi)) | (go_at_call 20; (with_reducible refine (calamuslaw01_lives.calls kj11  t164 _ A28.out).mono ?_); rintro e w32 ⟨rfl, hb⟩; replace HB := Aside0.mk (below_step (by repeat (first | (with_reducible first | exact HB.out | apply below_alloc | apply pw_below_drewN | apply below_drew1 | refine below_set ?_ (IsS45.ge HI151.out)) | exact HB.out)) hb); replace HI151 := Aside0.mk (IsS45.below (by repeat (first | (with_reducible first | exact HI151.out | apply IsS45.alloc | apply IsS45.drewN | apply IsS45.drew | apply IsS45.set_0 | apply IsS45.set_1) | exact HI151.out)) hb); (try clear hb); (try clear hb2); (try clear hk); (try clear hi))); try go_wp2_with (first | (go_at_call 24; (with_reducible refine (code_Reader_Text.calls g151 x152000_11 x152001_11 (a1.size : Int) t155 t156 t157 w _ ?side1 ?side2 A21.out).mono ?_); (case side1 => repeat (first | (with_reducible first | exact HI151.out | apply IsS45.alloc | apply IsS45.drewN | apply IsS45.drew | apply IsS45.set_0 | apply IsS45.set_1) | exact HI151.out)); (case side2 => repeat (first | (with_reducible first | exact HB.out | apply below_alloc | apply pw_below_drewN | apply below_drew1 | refine below_set ?_ (IsS45.ge HI151.out)) | exact HB.out)); rintro e w29 ⟨rfl, hi, hb, hk⟩; replace HB := Aside0.mk (hb); replace HI151 := Aside0.mk (hi); (try clear hb); (try clear hb2); (try clear hk); (try clear hi)) | (go_at_call 29; (with_reducible refine (code_Reader_Left.calls g151 t156 t157 t158 t159 t160 w _ ?side1 ?side2 A24.out).mono ?_); (case side1 => repeat (first | (with_reducible first | exact HI151.out | apply IsS45.alloc | apply IsS45.drewN | apply IsS45.drew | apply IsS45.set_0 | apply IsS45.set_1) | exact HI151.out)); (case side2 => repeat (first | (with_reducible first | exact HB.out | apply below_alloc | apply pw_below_drewN | apply below_drew1 | refine below_set ?_ (IsS45.ge HI151.out)) | exact HB.out)); rintro e w30 ⟨rfl, hi, hb, hk⟩; replace HB := Aside0.mk (hb); replace HI151 := Aside0.mk (hi); (try clear hb); (try clear hb2); (try clear hk); (try clear hi)) | (go_at_call 30; (with_reducible refine (code_Reader_Err.calls g151 t159 t160 t161 t162 t163 w _ ?side1 ?side2 A26.out).mono ?_); (case side1 => repeat (first | (with_reducible first | exact HI151.out | apply IsS45.alloc | apply IsS45.drewN | apply IsS45.drew | apply IsS45.set_0 | apply IsS45.set_1) | exact HI151.out)); (case side2 => repeat (first | (with_reducible first | exact HB.out | apply below_alloc | apply pw_below_drewN | apply below_drew1 | refine below_set ?_ (IsS45.ge HI151.out)) | exact HB.out)); rintro e w31 ⟨rfl, hi, hb, hk⟩; replace HB := Aside0.mk (hb); replace HI151 := Aside0.mk (hi); (try clear hb); (try clear hb2); (try clear hk); (try clear hi)) | (go_at_call 20; (with_reducible refine (calamuslaw01_lives.calls kj11  t164 _ A28.out).mono ?_); rintro e w32 ⟨rfl, hb⟩; replace HB := Aside0.mk (below_step (by repeat (first | (with_reducible first | exact HB.out | apply below_alloc | apply pw_below_drewN | apply below_drew1 | refine below_set ?_ (IsS45.ge HI151.out)) | exact HB.out)) hb); replace HI151 := Aside0.mk (IsS45.below (by repeat (first | (with_reducible first | exact HI151.out | apply IsS45.alloc | apply IsS45.drewN | apply IsS45.drew | apply IsS45.set_0 | apply IsS45.set_1) | exact HI151.out)) hb); (try clear hb); (try clear hb2); (try clear hk); (try clear hi))))
           go_ret
           exact ⟨er_, by repeat (first | (with_reducible first | exact HB.out | apply below_alloc | apply pw_below_drewN | apply below_drew1 | refine below_set ?_ (IsS45.ge HI151.out)) | exact HB.out)⟩
          ·rw [if_neg c27] at H
           have c27b0 : (t161 == 0) = false := beq_eq_false_iff_ne.mpr c27
           have c27b1 : (t161 != 0) = true := bne_iff_ne.mpr c27
           exact nf_ H hr_
         ·rw [if_neg c25] at H
          have c25b0 : (t158 == (a3.size : Int)) = false := beq_eq_false_iff_ne.mpr c25
          have c25b1 : (t158 != (a3.size : Int)) = true := bne_iff_ne.mpr c25
          exact nf_ H hr_
        ·rw [if_neg c23] at H
         have c23b0 : (t148.toList == ([] : List UInt8)) = false := beq_eq_false_iff_ne.mpr c23
         have c23b1 : (t148.toList != ([] : List UInt8)) = true := bne_iff_ne.mpr c23
         replace H := Option.bind_eq_some_iff.mp H
         obtain ⟨⟨t165, t168, t169⟩, A380, H⟩ := H
         replace H : (if (t165.length : Int) = (l2.length : Int) then (calamuslaw01_CodeBack.l0 kj11 l2 a3 t165 0 t168 t169) else (some false)) = some r := H
         have A38 := Aside0.mk A380
         clear A380
         by_cases c39 : (t165.length : Int) = (l2.length : Int)
         ·rw [if_pos c39] at H
          have c39b0 : ((t165.length : Int) == (l2.length : Int)) = true := beq_iff_eq.mpr c39
          have c39b1 : ((t165.length : Int) != (l2.length : Int)) = false := bne_eq_false_iff_eq.mpr c39
          have c39b2 : (t165.length == l2.length) = true := by first | simpa using c39 | (simp at c39 ⊢; omega)
          clear c39
          have H' := Aside0.mk H
          clear H
          go_wp2_with (first | (go_at_call 24; (with_reducible refine (code_Reader_Text.calls g151 x152000_11 x152001_11 (a1.size : Int) t155 t156 t157 w _ ?side1 ?side2 A21.out).mono ?_); (case side1 => repeat (first | (with_reducible first | exact HI151.out | apply IsS45.alloc | apply IsS45.drewN | apply IsS45.drew | apply IsS45.set_0 | apply IsS45.set_1) | exact HI151.out)); (case side2 => repeat (first | (with_reducible first | exact HB.out | apply below_alloc | apply pw_below_drewN | apply below_drew1 | refine below_set ?_ (IsS45.ge HI151.out)) | exact HB.out)); rintro e w40 ⟨rfl, hi, hb, hk⟩; replace HB := Aside0.mk (hb); replace HI151 := Aside0.mk (hi); (try clear hb); (try clear hb2); (try clear hk); (try clear hi)) | (go_at_call 27; (with_reducible refine (code_Reader_Nums.calls kj11 g151 t156 t157 (l2.length : Int) t165 t168 t169 w _ ?side1 ?side2 A38.out).mono ?_); (case side1 => repeat (first | (with_reducible first | exact HI151.out | apply IsS45.alloc | apply IsS45.drewN | apply IsS45.drew | apply IsS45.set_0 | apply IsS45.set_1) | exact HI151.out)); (case side2 => repeat (first | (with_reducible first | exact HB.out | apply below_alloc | apply pw_below_drewN | apply below_drew1 | refine below_set ?_ (IsS45.ge HI151.out)) | exact HB.out)); rintro e w41 ⟨v166, rfl, ho0, hi, hb, hk⟩; have HO167 := Aside0.mk (Kd.R_lower ho0 (below_size (by repeat (first | (with_reducible first | exact HB.out | apply below_alloc | apply pw_below_drewN | apply below_drew1 | refine below_set ?_ (IsS45.ge HI151.out)) | exact HB.out)))); replace HB := Aside0.mk (hb); replace HI151 := Aside0.mk (hi); (try clear hb); (try clear hb2); (try clear hk); (try clear hi); (try clear ho0); obtain ⟨Ao42, co42, eo42⟩ := Kd.R_slice HO167.out; subst eo42))
          repeat (go_quiet (first | (go_at_call 24; (with_reducible refine (code_Reader_Text.calls g151 x152000_11 x152001_11 (a1.size : Int) t155 t156 t157 w _ ?side1 ?side2 A21.out).mono ?_); (case side1 => repeat (first | (with_reducible first | exact HI151.out | apply IsS45.alloc | apply IsS45.drewN | apply IsS45.drew | apply IsS45.set_0 | apply IsS45.set_1) | exact HI151.out)); (case side2 => repeat (first | (with_reducible first | exact HB.out | apply below_alloc | apply pw_below_drewN | apply below_drew1 | refine below_set ?_ (IsS45.ge HI151.out)) | exact HB.out)); rintro e w40 ⟨rfl, hi, hb, hk⟩; replace HB := Aside0.mk (hb); replace HI151 := Aside0.mk (hi); (try clear hb); (try clear hb2); (try clear hk); (try clear hi)) | (go_at_call 27; (with_reducible refine (code_Reader_Nums.calls kj11 g151 t156 t157 (l2.length : Int) t165 t168 t169 w _ ?side1 ?side2 A38.out).mono ?_); (case side1 => repeat (first | (with_reducible first | exact HI151.out | apply IsS45.alloc | apply IsS45.drewN | apply IsS45.drew | apply IsS45.set_0 | apply IsS45.set_1) | exact HI151.out)); (case side2 => repeat (first | (with_reducible first | exact HB.out | apply below_alloc | apply pw_below_drewN | apply below_drew1 | refine below_set ?_ (IsS45.ge HI151.out)) | exact HB.out)); rintro e w41 ⟨v166, rfl, ho0, hi, hb, hk⟩; have HO167 := Aside0.mk (Kd.R_lower ho0 (below_size (by repeat (first | (with_reducible first | exact HB.out | apply below_alloc | apply pw_below_drewN | apply below_drew1 | refine below_set ?_ (IsS45.ge HI151.out)) | exact HB.out)))); replace HB := Aside0.mk (hb); replace HI151 := Aside0.mk (hi); (try clear hb); (try clear hb2); (try clear hk); (try clear hi); (try clear ho0); obtain ⟨Ao42, co42, eo42⟩ := Kd.R_slice HO167.out; subst eo42)); try go_wp2_with (first | (go_at_call 24; (with_reducible refine (code_Reader_Text.calls g151 x152000_11 x152001_11 (a1.size : Int) t155 t156 t157 w _ ?side1 ?side2 A21.out).mono ?_); (case side1 => repeat (first | (with_reducible first | exact HI151.out | apply IsS45.alloc | apply IsS45.drewN | apply IsS45.drew | apply IsS45.set_0 | apply IsS45.set_1) | exact HI151.out)); (case side2 => repeat (first | (with_reducible first | exact HB.out | apply below_alloc | apply pw_below_drewN | apply below_drew1 | refine below_set ?_ (IsS45.ge HI151.out)) | exact HB.out)); rintro e w40 ⟨rfl, hi, hb, hk⟩; replace HB := Aside0.mk (hb); replace HI151 := Aside0.mk (hi); (try clear hb); (try clear hb2); (try clear hk); (try clear hi)) | (go_at_call 27; (with_reducible refine (code_Reader_Nums.calls kj11 g151 t156 t157 (l2.length : Int) t165 t168 t169 w _ ?side1 ?side2 A38.out).mono ?_); (case side1 => repeat (first | (with_reducible first | exact HI151.out | apply IsS45.alloc | apply IsS45.drewN | apply IsS45.drew | apply IsS45.set_0 | apply IsS45.set_1) | exact HI151.out)); (case side2 => repeat (first | (with_reducible first | exact HB.out | apply below_alloc | apply pw_below_drewN | apply below_drew1 | refine below_set ?_ (IsS45.ge HI151.out)) | exact HB.out)); rintro e w41 ⟨v166, rfl, ho0, hi, hb, hk⟩; have HO167 := Aside0.mk (Kd.R_lower ho0 (below_size (by repeat (first | (with_reducible first | exact HB.out | apply below_alloc | apply pw_below_drewN | apply below_drew1 | refine below_set ?_ (IsS45.ge HI151.out)) | exact HB.out)))); replace HB := Aside0.mk (hb); replace HI151 := Aside0.mk (hi); (try clear hb); (try clear hb2); (try clear hk); (try clear hi); (try clear ho0); obtain ⟨Ao42, co42, eo42⟩ := Kd.R_slice HO167.out; subst eo42)))
          go_loopg [14] kj11 (fun kq v14 w' => ∃ (x14_2 : Int), v14 = .int .i64 x14_2 ∧ Aside0 (calamuslaw01_CodeBack.l0 kq l2 a3 t165 x14_2 t168 t169 = some r) ∧ Aside0 (kq ≤ kj11) ∧ Aside0 (Kd.R (Kd.int .i64) 3 w' w.heap.size (fun _ => True) (.slice Ao42 t165.length co42) t165) ∧ Aside0 (IsS45 w w' g151 t168 t169) ∧ Aside0 (Below w.heap.size w w'))
          case atStart => exact ⟨(0), es_, H', ⟨Nat.le_refl _⟩, ⟨rw_ HO167.out⟩, ⟨by repeat (first | (with_reducible first | exact HI151.out | apply IsS45.alloc | apply IsS45.drewN | apply IsS45.drew | apply IsS45.set_0 | apply IsS45.set_1) | exact HI151.out)⟩, ⟨by repeat (first | (with_reducible first | exact HB.out | apply below_alloc | apply pw_below_drewN | apply below_drew1 | refine below_set ?_ (IsS45.ge HI151.out)) | exact HB.out)⟩⟩
          case round =>
           clear H'
           try clear c8
           try clear c8b0
           try clear c8b1
           try clear c8b2
           try clear c9
           try clear c9b0
           try clear c9b1
           try clear c9b2
           try clear c10
           try clear c10b0
           try clear c10b1
           try clear c10b2
           try clear c20
           try clear c22
           try clear c22b0
           try clear c22b1
           try clear c23
           try clear c23b0
           try clear c23b1
           try clear c39
           try clear c39b0
           try clear c39b1
           try clear c39b2
           obtain ⟨x14_2, rfl, HA, HK2, HO_13, HI151, HB⟩ := hrel
           cases gk with
           | zero => exact absurd HA.out (by simp [calamuslaw01_CodeBack.l0])
           | succ k2 =>
            have H := HA.out
            clear HA
            simp only [calamuslaw01_CodeBack.l0] at H
            by_cases c43 : x14_2 < (l2.length : Int)
            ·rw [if_pos c43] at H
             have c43b0 : decide (x14_2 < (l2.length : Int)) = true := decide_eq_true c43
             clear c43
             by_cases c44 : 0 ≤ x14_2
             ·rw [if_pos c44] at H
              have c44b0 : decide (0 ≤ x14_2) = true := decide_eq_true c44
              clear c44
              by_cases c45 : x14_2 < (t165.length : Int)
              ·rw [if_pos c45] at H
               have c45b0 : decide (x14_2 < (t165.length : Int)) = true := decide_eq_true c45
               clear c45
               by_cases c46 : (rd t165 x14_2) = (rd l2 x14_2)
               ·rw [if_pos c46] at H
                have c46b0 : ((rd t165 x14_2) == (rd l2 x14_2)) = true := beq_iff_eq.mpr c46
                have c46b1 : ((rd t165 x14_2) != (rd l2 x14_2)) = false := bne_eq_false_iff_eq.mpr c46
                clear c46
                have H' := Aside0.mk H
                clear H
                have p170 : 0 ≤ (x14_2 : Int) := of_decide_eq_true as_
                have q170 : x14_2 < (t165.length : Int) := of_decide_eq_true as_
                obtain ⟨ad170, e170, hx170_0⟩ := Kd.at_int (Kd.R_reads' HO_13.out).2.2 x14_2 p170 q170
                cases e170
                replace p170 := eq_true p170
                replace q170 := eq_true q170
                have p171 : 0 ≤ (x14_2 : Int) := of_decide_eq_true as_
                have q171 : x14_2 < (l2.length : Int) := of_decide_eq_true as_
                obtain ⟨ad171, e171, hx171_0⟩ := Kd.at_int HR2.out x14_2 p171 q171
                cases e171
                replace hx171_0 := cb_ HB hx171_0
                replace p171 := eq_true p171
                replace q171 := eq_true q171
                go_wp2
                repeat (go_quiet (fail); try go_wp2)
                go_roundg k2
                case measure => have := HJ11.out; have := HK2.out; omega
                case rel => exact ⟨(wrap64 (x14_2 + 1)), es_, H', ⟨by have := HJ11.out; have := HK2.out; omega⟩, ⟨rw_ HO_13.out⟩, ⟨by repeat (first | (with_reducible first | exact HI151.out | apply IsS45.alloc | apply IsS45.drewN | apply IsS45.drew | apply IsS45.set_0 | apply IsS45.set_1) | exact HI151.out)⟩, ⟨by repeat (first | (with_reducible first | exact HB.out | apply below_alloc | apply pw_below_drewN | apply below_drew1 | refine below_set ?_ (IsS45.ge HI151.out)) | exact HB.out)⟩⟩
               ·rw [if_neg c46] at H
                have c46b0 : ((rd t165 x14_2) == (rd l2 x14_2)) = false := beq_eq_false_iff_ne.mpr c46
                have c46b1 : ((rd t165 x14_2) != (rd l2 x14_2)) = true := bne_iff_ne.mpr c46
                exact nf_ H hr_
              ·rw [if_neg c45] at H
               exact absurd H (by simp)
             ·rw [if_neg c44] at H
              exact absurd H (by simp)
            ·rw [if_neg c43] at H
             have c43b0 : decide (x14_2 < (l2.length : Int)) = false := decide_eq_false c43
             clear c43
             replace H := Option.bind_eq_some_iff.mp H
             obtain ⟨⟨t172, t173, t174⟩, A470, H⟩ := H
             replace H : (if t172 = (a3.size : Int) then ((code_Reader_Err.f t173 t174).bind fun bt175 => (if bt175.1 = 0 then ((calamuslaw01_lives.f k2).bind fun t178 => (some t178)) else (some false))) else (some false)) = some r := H
             have A47 := Aside0.mk A470
             clear A470
             by_cases c48 : t172 = (a3.size : Int)
             ·rw [if_pos c48] at H
              have c48b0 : (t172 == (a3.size : Int)) = true := beq_iff_eq.mpr c48
              have c48b1 : (t172 != (a3.size : Int)) = false := bne_eq_false_iff_eq.mpr c48
              clear c48
              replace H := Option.bind_eq_some_iff.mp H
              obtain ⟨⟨t175, t176, t177⟩, A490, H⟩ := H
              replace H : (if t175 = 0 then ((calamuslaw01_lives.f k2).bind fun t178 => (some t178)) else (some false)) = some r := H
              have A49 := Aside0.mk A490
              clear A490
              by_cases c50 : t175 = 0
              ·rw [if_pos c50] at H
               have c50b0 : (t175 == 0) = true := beq_iff_eq.mpr c50
               have c50b1 : (t175 != 0) = false := bne_eq_false_iff_eq.mpr c50
               clear c50
               replace H := Option.bind_eq_some_iff.mp H
               obtain ⟨t178, A510, H⟩ := H
               replace H : (some t178) = some r := H
               have A51 := Aside0.mk A510
               clear A510
               obtain rfl := Option.some.inj H
               go_wp2_with (first | (go_at_call 29; (with_reducible refine (code_Reader_Left.calls g151 t168 t169 t172 t173 t174 w _ ?side1 ?side2 A47.out).mono ?_); (case side1 => repeat (first | (with_reducible first | exact HI151.out | apply IsS45.alloc | apply IsS45.drewN | apply IsS45.drew | apply IsS45.set_0 | apply IsS45.set_1) | exact HI151.out)); (case side2 => repeat (first | (with_reducible first | exact HB.out | apply below_alloc | apply pw_below_drewN | apply below_drew1 | refine below_set ?_ (IsS45.ge HI151.out)) | exact HB.out)); rintro e w52 ⟨rfl, hi, hb, hk⟩; replace HO_13 := Aside0.mk (Kd.R_mono (Kd.R_keep (IsS45.apart (show IsS45 w _ g151 t168 t169 from by repeat (first | (with_reducible first | exact HI151.out | apply IsS45.alloc | apply IsS45.drewN | apply IsS45.drew | apply IsS45.set_0 | apply IsS45.set_1) | exact HI151.out)) (rw_ HO_13.out) (by decide)) hk (fun _ h => h.2)) (fun _ h => h.1)); replace HB := Aside0.mk (hb); replace HI151 := Aside0.mk (hi); (try clear hb); (try clear hb2); (try clear hk); (try clear hi)) | (go_at_call 30; (with_reducible refine (code_Reader_Err.calls g151 t173 t174 t175 t176 t177 w _ ?side1 ?side2 A49.out).mono ?_); (case side1 => repeat (first | (with_reducible first | exact HI151.out | apply IsS45.alloc | apply IsS45.drewN | apply IsS45.drew | apply IsS45.set_0 | apply IsS45.set_1) | exact HI151.out)); (case side2 => repeat (first | (with_reducible first | exact HB.out | apply below_alloc | apply pw_below_drewN | apply below_drew1 | refine below_set ?_ (IsS45.ge HI151.out)) | exact HB.out)); rintro e w53 ⟨rfl, hi, hb, hk⟩; replace HO_13 := Aside0.mk (Kd.R_mono (Kd.R_keep (IsS45.apart (show IsS45 w _ g151 t173 t174 from by repeat (first | (with_reducible first | exact HI151.out | apply IsS45.alloc | apply IsS45.drewN | apply IsS45.drew | apply IsS45.set_0 | apply IsS45.set_1) | exact HI151.out)) (rw_ HO_13.out) (by decide)) hk (fun _ h => h.2)) (fun _ h => h.1)); replace HB := Aside0.mk (hb); replace HI151 := Aside0.mk (hi); (try clear hb); (try clear hb2); (try clear hk); (try clear hi)) | (go_at_call 20; (with_reducible refine (calamuslaw01_lives.calls k2  t178 _ A51.out).mono ?_); rintro e w54 ⟨rfl, hb⟩; replace HO_13 := Aside0.mk (Kd.R_below (rw_ HO_13.out) hb); replace HB := Aside0.mk (below_step (by repeat (first | (with_reducible first | exact HB.out | apply below_alloc | apply pw_below_drewN | apply below_drew1 | refine below_set ?_ (IsS45.ge HI151.out)) | exact HB.out)) hb); replace HI151 := Aside0.mk (IsS45.below (by repeat (first | (with_reducible first | exact HI151.out | apply IsS45.alloc | apply IsS45.drewN | apply IsS45.drew | apply IsS45.set_0 | apply IsS45.set_1) | exact HI151.out)) hb); (try clear hb); (try clear hb2); (try clear hk); (try clear hi)))
               repeat (go_quiet (first | (go_at_call 29; (with_reducible refine (code_Reader_Left.calls g151 t168 t169 t172 t173 t174 w _ ?side1 ?side2 A47.out).mono ?_); (case side1 => repeat (first | (with_reducible first | exact HI151.out | apply IsS45.alloc | apply IsS45.drewN | apply IsS45.drew | apply IsS45.set_0 | apply IsS45.set_1) | exact HI151.out)); (case side2 => repeat (first | (with_reducible first | exact HB.out | apply below_alloc | apply pw_below_drewN | apply below_drew1 | refine below_set ?_ (IsS45.ge HI151.out)) | exact HB.out)); rintro e w52 ⟨rfl, hi, hb, hk⟩; replace HO_13 := Aside0.mk (Kd.R_mono (Kd.R_keep (IsS45.apart (show IsS45 w _ g151 t168 t169 from by repeat (first | (with_reducible first | exact HI151.out | apply IsS45.alloc | apply IsS45.drewN | apply IsS45.drew | apply IsS45.set_0 | apply IsS45.set_1) | exact HI151.out)) (rw_ HO_13.out) (by decide)) hk (fun _ h => h.2)) (fun _ h => h.1)); replace HB := Aside0.mk (hb); replace HI151 := Aside0.mk (hi); (try clear hb); (try clear hb2); (try clear hk); (try clear hi)) | (go_at_call 30; (with_reducible refine (code_Reader_Err.calls g151 t173 t174 t175 t176 t177 w _ ?side1 ?side2 A49.out).mono ?_); (case side1 => repeat (first | (with_reducible first | exact HI151.out | apply IsS45.alloc | apply IsS45.drewN | apply IsS45.drew | apply IsS45.set_0 | apply IsS45.set_1) | exact HI151.out)); (case side2 => repeat (first | (with_reducible first | exact HB.out | apply below_alloc | apply pw_below_drewN | apply below_drew1 | refine below_set ?_ (IsS45.ge HI151.out)) | exact HB.out)); rintro e w53 ⟨rfl, hi, hb, hk⟩; replace HO_13 := Aside0.mk (Kd.R_mono (Kd.R_keep (IsS45.apart (show IsS45 w _ g151 t173 t174 from by repeat (first | (with_reducible first | exact HI151.out | apply IsS45.alloc | apply IsS45.drewN | apply IsS45.drew | apply IsS45.set_0 | apply IsS45.set_1) | exact HI151.out)) (rw_ HO_13.out) (by decide)) hk (fun _ h => h.2)) (fun _ h => h.1)); replace HB := Aside0.mk (hb); replace HI151 := Aside0.mk (hi); (try clear hb); (try clear hb2); (try clear hk); (try clear hi)) | (go_at_call 20; (with_reducible refine (calamuslaw01_lives.calls k2  t178 _ A51.out).mono ?_); rintro e w54 ⟨rfl, hb⟩; replace HO_13 := Aside0.mk (Kd.R_below (rw_ HO_13.out) hb); replace HB := Aside0.mk (below_step (by repeat (first | (with_reducible first | exact HB.out | apply below_alloc | apply pw_below_drewN | apply below_drew1 | refine below_set ?_ (IsS45.ge HI151.out)) | exact HB.out)) hb); replace HI151 := Aside0.mk (IsS45.below (by repeat (first | (with_reducible first | exact HI151.out | apply IsS45.alloc | apply IsS45.drewN | apply IsS45.drew | apply IsS45.set_0 | apply IsS45.set_1) | exact HI151.out)) hb); (try clear hb); (try clear hb2); (try clear hk); (try clear hi))); try go_wp2_with (first | (go_at_call 29; (with_reducible refine (code_Reader_Left.calls g151 t168 t169 t172 t173 t174 w _ ?side1 ?side2 A47.out).mono ?_); (case side1 => repeat (first | (with_reducible first | exact HI151.out | apply IsS45.alloc | apply IsS45.drewN | apply IsS45.drew | apply IsS45.set_0 | apply IsS45.set_1) | exact HI151.out)); (case side2 => repeat (first | (with_reducible first | exact HB.out | apply below_alloc | apply pw_below_drewN | apply below_drew1 | refine below_set ?_ (IsS45.ge HI151.out)) | exact HB.out)); rintro e w52 ⟨rfl, hi, hb, hk⟩; replace HO_13 := Aside0.mk (Kd.R_mono (Kd.R_keep (IsS45.apart (show IsS45 w _ g151 t168 t169 from by repeat (first | (with_reducible first | exact HI151.out | apply IsS45.alloc | apply IsS45.drewN | apply IsS45.drew | apply IsS45.set_0 | apply IsS45.set_1) | exact HI151.out)) (rw_ HO_13.out) (by decide)) hk (fun _ h => h.2)) (fun _ h => h.1)); replace HB := Aside0.mk (hb); replace HI151 := Aside0.mk (hi); (try clear hb); (try clear hb2); (try clear hk); (try clear hi)) | (go_at_call 30; (with_reducible refine (code_Reader_Err.calls g151 t173 t174 t175 t176 t177 w _ ?side1 ?side2 A49.out).mono ?_); (case side1 => repeat (first | (with_reducible first | exact HI151.out | apply IsS45.alloc | apply IsS45.drewN | apply IsS45.drew | apply IsS45.set_0 | apply IsS45.set_1) | exact HI151.out)); (case side2 => repeat (first | (with_reducible first | exact HB.out | apply below_alloc | apply pw_below_drewN | apply below_drew1 | refine below_set ?_ (IsS45.ge HI151.out)) | exact HB.out)); rintro e w53 ⟨rfl, hi, hb, hk⟩; replace HO_13 := Aside0.mk (Kd.R_mono (Kd.R_keep (IsS45.apart (show IsS45 w _ g151 t173 t174 from by repeat (first | (with_reducible first | exact HI151.out | apply IsS45.alloc | apply IsS45.drewN | apply IsS45.drew | apply IsS45.set_0 | apply IsS45.set_1) | exact HI151.out)) (rw_ HO_13.out) (by decide)) hk (fun _ h => h.2)) (fun _ h => h.1)); replace HB := Aside0.mk (hb); replace HI151 := Aside0.mk (hi); (try clear hb); (try clear hb2); (try clear hk); (try clear hi)) | (go_at_call 20; (with_reducible refine (calamuslaw01_lives.calls k2  t178 _ A51.out).mono ?_); rintro e w54 ⟨rfl, hb⟩; replace HO_13 := Aside0.mk (Kd.R_below (rw_ HO_13.out) hb); replace HB := Aside0.mk (below_step (by repeat (first | (with_reducible first | exact HB.out | apply below_alloc | apply pw_below_drewN | apply below_drew1 | refine below_set ?_ (IsS45.ge HI151.out)) | exact HB.out)) hb); replace HI151 := Aside0.mk (IsS45.below (by repeat (first | (with_reducible first | exact HI151.out | apply IsS45.alloc | apply IsS45.drewN | apply IsS45.drew | apply IsS45.set_0 | apply IsS45.set_1) | exact HI151.out)) hb); (try clear hb); (try clear hb2); (try clear hk); (try clear hi))))
               go_ret
               exact ⟨er_, by repeat (first | (with_reducible first | exact HB.out | apply below_alloc | apply pw_below_drewN | apply below_drew1 | refine below_set ?_ (IsS45.ge HI151.out)) | exact HB.out)⟩
              ·rw [if_neg c50] at H
               have c50b0 : (t175 == 0) = false := beq_eq_false_iff_ne.mpr c50
               have c50b1 : (t175 != 0) = true := bne_iff_ne.mpr c50
               exact nf_ H hr_
             ·rw [if_neg c48] at H
              have c48b0 : (t172 == (a3.size : Int)) = false := beq_eq_false_iff_ne.mpr c48
              have c48b1 : (t172 != (a3.size : Int)) = true := bne_iff_ne.mpr c48
              exact nf_ H hr_
         ·rw [if_neg c39] at H
          have c39b0 : ((t165.length : Int) == (l2.length : Int)) = false := beq_eq_false_iff_ne.mpr c39
          have c39b1 : ((t165.length : Int) != (l2.length : Int)) = true := bne_iff_ne.mpr c39
          have c39b2 : (t165.length == l2.length) = false := by first | simpa using c39 | (simp at c39 ⊢; omega)
          exact nf_ H hr_
       ·rw [if_neg c22] at H
        have c22b0 : (t155.toList == a1.toList) = false := beq_eq_false_iff_ne.mpr c22
        have c22b1 : (t155.toList != a1.toList) = true := bne_iff_ne.mpr c22
        exact nf_ H hr_
   ·rw [if_neg c10] at H
    exact absurd H (by simp)
  ·rw [if_neg c9] at H
   exact absurd H (by simp)
 ·rw [if_neg c8] at H
  exact absurd H (by simp)

/-- THE ONE PURE STATEMENT of calamuslaw01_CodeBack: yours. -/
def calamuslaw01_CodeBack.Pure : Prop := ∀ (a0 : Int) (a1 : ByteArray) (l2 : List Int) (a3 : ByteArray), (Lit.int .i64 a0).wf = true → a1.size ≤ 140737488351232 → l2.length ≤ maxLen → l2.length * 8 ≤ 140737488351232 → (∀ x ∈ l2, (Lit.int .i64 x).wf = true) → a3.size ≤ 140737488351232 → ∃ k, calamuslaw01_CodeBack.f k a0 a1 l2 a3 = some true
theorem calamuslaw01_CodeBack.walk (P : calamuslaw01_CodeBack.Pure) (a0 : Int) (a1 : ByteArray) (a2 : Option Addr) (len2 cap2 : Nat) (z2 : List Int) (a3 : ByteArray) (w : World) (w0 : (Lit.int .i64 a0).wf = true) (w1 : a1.size ≤ 140737488351232) (w2 : (a2 = none ∧ len2 = 0 ∧ cap2 = 0 ∧ z2 = []) ∨ ∃ x, a2 = some x ∧ len2 ≤ cap2 ∧ cap2 ≤ maxLen ∧ z2.length = cap2 ∧ (∀ i, i < z2.length → w.cell? (x.add i) = some (.int .i64 (z2.getD i 0))) ∧ ∀ n ∈ z2, (Lit.int .i64 n).wf = true) (y2 : len2 * 8 ≤ 140737488351232) (w3 : a3.size ≤ 140737488351232) :
  Calls Try.prog 5 #[.int .i64 a0, .string a1, .slice a2 len2 cap2, .string a3] w fun e w' => e = .returned (.bool true) ∧ Below w.heap.size w w' := by
 obtain ⟨l2, rfl, hr2, hm2, hw2, hc2⟩ := ReadsInt.ofRowC w2
 obtain ⟨k, h⟩ := P a0 a1 l2 a3 w0 w1 hm2 y2 hw2 w3
 refine (calamuslaw01_CodeBack.calls k a0 a1 _ _ l2 a3 true w (Kd.C_of_reads (d := (0 : Int)) (h1 := fun _ => rfl) hr2) hc2 h).mono ?_
 rintro e w' ⟨rfl, hd⟩
 exact ⟨rfl, hd⟩

end Go.Proofs.Ytjobaaolohemgaa.PCodeBack
