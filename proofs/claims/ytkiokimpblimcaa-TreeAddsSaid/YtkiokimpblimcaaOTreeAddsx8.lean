/- Of the law calamus/calamuslaw11.TreeAdds: each function as a plain Lean function, with a proof that the call comes to it; the row. By wip/tpl/own_print.py. Conditions: none but the row's own. -/
import Derived.Test.YtkiokimpblimcaaOTreeAddsx0
import Derived.Test.YtkiokimpblimcaaOTreeAddsx1
import Derived.Test.YtkiokimpblimcaaOTreeAddsx7
namespace Go.Proofs.Ytkiokimpblimcaa.PTreeAdds
open Go.RowKit Go.Proofs.YtkiokimpblimcaaW.PrintWords Go.Proofs.YtkiokimpblimcaaW.PrintLast Go.Proofs.YtkiokimpblimcaaW.PrintMore
attribute [local go_sem] max2_int min2_int max_two min_two max_three min_three max_four min_four   -- for this text's walks alone
set_option linter.unusedVariables false
set_option linter.unusedSimpArgs false

attribute [local go_sem high] eqA24
/-! ### calamusref11_Right: function 37 -/
mutual
def calamusref11_Right.j0 : Nat → Bool → List (S69) → Int → Option (Bool)
 | 0, _, _, _ => none
 | k + 1, x24, x221000, x221001 => if x24 = true then (some false) else (if 0 ≤ (x221000.length : Int) then (if ((x221000.length : Int) : Int).toNat ≤ 35184372088832 then (calamusref11_Right.l0 k (List.replicate ((x221000.length : Int) : Int).toNat 0) 0 x221000 x221001) else (none)) else (none))
def calamusref11_Right.l0 : Nat → List Int → Int → List (S69) → Int → Option (Bool)
 | 0, _, _, _, _ => none
 | k + 1, x3, x4, x221000, x221001 => if x4 < (x221000.length : Int) then (if 0 ≤ x4 then (if x4 = 0 then (if ((rd_T69 x221000 x4).f0) = (-1) then (if ((rd_T69 x221000 x4).f2) = 0 then (if ((rd_T69 x221000 x4).f3) = 0 then (calamusref11_Right.j2 k x3 x4 (!(((rd_T69 x221000 x4).f4.f0) == 0) || (!((((rd_T69 x221000 x4).f4.f1).toList) == ([] : List UInt8)) || (!((((rd_T69 x221000 x4).f4.f2).toList) == ([] : List UInt8))))) x221000 x221001 ((rd_T69 x221000 x4).f0) ((rd_T69 x221000 x4).f1) ((rd_T69 x221000 x4).f2) ((rd_T69 x221000 x4).f3) ((rd_T69 x221000 x4).f4.f0) ((rd_T69 x221000 x4).f4.f1) ((rd_T69 x221000 x4).f4.f2)) else (calamusref11_Right.j2 k x3 x4 true x221000 x221001 ((rd_T69 x221000 x4).f0) ((rd_T69 x221000 x4).f1) ((rd_T69 x221000 x4).f2) ((rd_T69 x221000 x4).f3) ((rd_T69 x221000 x4).f4.f0) ((rd_T69 x221000 x4).f4.f1) ((rd_T69 x221000 x4).f4.f2))) else (calamusref11_Right.j2 k x3 x4 true x221000 x221001 ((rd_T69 x221000 x4).f0) ((rd_T69 x221000 x4).f1) ((rd_T69 x221000 x4).f2) ((rd_T69 x221000 x4).f3) ((rd_T69 x221000 x4).f4.f0) ((rd_T69 x221000 x4).f4.f1) ((rd_T69 x221000 x4).f4.f2))) else (calamusref11_Right.j2 k x3 x4 true x221000 x221001 ((rd_T69 x221000 x4).f0) ((rd_T69 x221000 x4).f1) ((rd_T69 x221000 x4).f2) ((rd_T69 x221000 x4).f3) ((rd_T69 x221000 x4).f4.f0) ((rd_T69 x221000 x4).f4.f1) ((rd_T69 x221000 x4).f4.f2))) else (calamusref11_Right.j2 k x3 x4 false x221000 x221001 ((rd_T69 x221000 x4).f0) ((rd_T69 x221000 x4).f1) ((rd_T69 x221000 x4).f2) ((rd_T69 x221000 x4).f3) ((rd_T69 x221000 x4).f4.f0) ((rd_T69 x221000 x4).f4.f1) ((rd_T69 x221000 x4).f4.f2))) else (none)) else (calamusref11_Right.l1 k x3 0 x221000 x221001)
def calamusref11_Right.j2 : Nat → List Int → Int → Bool → List (S69) → Int → Int → Int → Int → Int → Int → ByteArray → ByteArray → Option (Bool)
 | 0, _, _, _, _, _, _, _, _, _, _, _, _ => none
 | k + 1, x3, x4, x63, x221000, x221001, x227000, x227001, x227002, x227003, x227004, x227005, x227006 => if x63 = true then (some false) else (if x4 > 0 then (if x227000 < 0 then (calamusref11_Right.j3 k x3 x4 true x221000 x221001 x227000 x227001 x227002 x227003 x227004 x227005 x227006) else (if x227000 ≥ x4 then (calamusref11_Right.j3 k x3 x4 true x221000 x221001 x227000 x227001 x227002 x227003 x227004 x227005 x227006) else (if x227002 < 0 then (calamusref11_Right.j3 k x3 x4 true x221000 x221001 x227000 x227001 x227002 x227003 x227004 x227005 x227006) else (calamusref11_Right.j3 k x3 x4 (decide (x227003 < 0)) x221000 x221001 x227000 x227001 x227002 x227003 x227004 x227005 x227006)))) else (calamusref11_Right.j3 k x3 x4 false x221000 x221001 x227000 x227001 x227002 x227003 x227004 x227005 x227006))
def calamusref11_Right.j3 : Nat → List Int → Int → Bool → List (S69) → Int → Int → Int → Int → Int → Int → ByteArray → ByteArray → Option (Bool)
 | 0, _, _, _, _, _, _, _, _, _, _, _, _ => none
 | k + 1, x3, x4, x86, x221000, x221001, x227000, x227001, x227002, x227003, x227004, x227005, x227006 => if x86 = true then (some false) else (if x4 > 0 then (if 0 ≤ x227000 then (if x227000 < (x3.length : Int) then (calamusref11_Right.l0 k (x3.set (x227000 : Int).toNat (wrap64 ((rd x3 x227000) + 1))) (wrap64 (x4 + 1)) x221000 x221001) else (none)) else (none)) else (calamusref11_Right.l0 k x3 (wrap64 (x4 + 1)) x221000 x221001))
def calamusref11_Right.l1 : Nat → List Int → Int → List (S69) → Int → Option (Bool)
 | 0, _, _, _, _ => none
 | k + 1, x3, x6, x221000, x221001 => if x6 < (x221000.length : Int) then (if 0 ≤ x6 then (if x6 < (x3.length : Int) then (if (rd x3 x6) = 0 then (if ((rd_T69 x221000 x6).f1) = (-1) then (if (rd x3 x6) > 0 then ((calamusref11_has.f x221000 x221001 ((rd_T69 x221000 x6).f1)).bind fun t232 => (if t232 = true then (if 0 ≤ ((rd_T69 x221000 x6).f1) then (if ((rd_T69 x221000 x6).f1) < (x221000.length : Int) then (if ((rd_T69 x221000 ((rd_T69 x221000 x6).f1)).f0) = x6 then (calamusref11_Right.l1 k x3 (wrap64 (x6 + 1)) x221000 x221001) else (some false)) else (none)) else (none)) else (some false))) else (calamusref11_Right.l1 k x3 (wrap64 (x6 + 1)) x221000 x221001)) else (some false)) else (if (rd x3 x6) > 0 then ((calamusref11_has.f x221000 x221001 ((rd_T69 x221000 x6).f1)).bind fun t235 => (if t235 = true then (if 0 ≤ ((rd_T69 x221000 x6).f1) then (if ((rd_T69 x221000 x6).f1) < (x221000.length : Int) then (if ((rd_T69 x221000 ((rd_T69 x221000 x6).f1)).f0) = x6 then (calamusref11_Right.l1 k x3 (wrap64 (x6 + 1)) x221000 x221001) else (some false)) else (none)) else (none)) else (some false))) else (calamusref11_Right.l1 k x3 (wrap64 (x6 + 1)) x221000 x221001))) else (none)) else (none)) else (some true)
end
def calamusref11_Right.f (k : Nat) (l0_0 : List (S69)) (a0_1 : Int) : Option (Bool) := if (l0_0.length : Int) < 1 then (calamusref11_Right.j0 k true l0_0 a0_1) else (if (l0_0.length : Int) > 1024 then (calamusref11_Right.j0 k true l0_0 a0_1) else ((calamusref11_has.f l0_0 a0_1 a0_1).bind fun t221 => (calamusref11_Right.j0 k (!t221) l0_0 a0_1)))
theorem calamusref11_Right.mono_l : ∀ k, (∀ y0 y1 y2, LeO (calamusref11_Right.j0 k y0 y1 y2) (calamusref11_Right.j0 (k + 1) y0 y1 y2)) ∧ (∀ y0 y1 y2 y3, LeO (calamusref11_Right.l0 k y0 y1 y2 y3) (calamusref11_Right.l0 (k + 1) y0 y1 y2 y3)) ∧ (∀ y0 y1 y2 y3 y4 y5 y6 y7 y8 y9 y10 y11, LeO (calamusref11_Right.j2 k y0 y1 y2 y3 y4 y5 y6 y7 y8 y9 y10 y11) (calamusref11_Right.j2 (k + 1) y0 y1 y2 y3 y4 y5 y6 y7 y8 y9 y10 y11)) ∧ (∀ y0 y1 y2 y3 y4 y5 y6 y7 y8 y9 y10 y11, LeO (calamusref11_Right.j3 k y0 y1 y2 y3 y4 y5 y6 y7 y8 y9 y10 y11) (calamusref11_Right.j3 (k + 1) y0 y1 y2 y3 y4 y5 y6 y7 y8 y9 y10 y11)) ∧ (∀ y0 y1 y2 y3, LeO (calamusref11_Right.l1 k y0 y1 y2 y3) (calamusref11_Right.l1 (k + 1) y0 y1 y2 y3))
 | 0 => ⟨fun _ _ _ r h => by simp [calamusref11_Right.j0] at h, fun _ _ _ _ r h => by simp [calamusref11_Right.l0] at h, fun _ _ _ _ _ _ _ _ _ _ _ _ r h => by simp [calamusref11_Right.j2] at h, fun _ _ _ _ _ _ _ _ _ _ _ _ r h => by simp [calamusref11_Right.j3] at h, fun _ _ _ _ r h => by simp [calamusref11_Right.l1] at h⟩
 | k + 1 => by
  obtain ⟨ih0, ih1, ih2, ih3, ih4⟩ := calamusref11_Right.mono_l k
  refine ⟨?_, ?_, ?_, ?_, ?_⟩
  ·intro y0 y1 y2
   unfold calamusref11_Right.j0
   repeat' first
   | (with_reducible exact ih0 _ _ _)
   | (with_reducible exact ih1 _ _ _ _)
   | (with_reducible exact ih2 _ _ _ _ _ _ _ _ _ _ _ _)
   | (with_reducible exact ih3 _ _ _ _ _ _ _ _ _ _ _ _)
   | (with_reducible exact ih4 _ _ _ _)
   | (with_reducible exact LeO.refl _)
   | (with_reducible exact LeO.none _)
   | (with_reducible refine LeO.ite ?_ ?_)
   | (with_reducible refine LeO.bind ?_ (fun _ => ?_))
   | exact ih0 _ _ _
   | exact ih1 _ _ _ _
   | exact ih2 _ _ _ _ _ _ _ _ _ _ _ _
   | exact ih3 _ _ _ _ _ _ _ _ _ _ _ _
   | exact ih4 _ _ _ _
   | exact LeO.none _
   | refine LeO.ite ?_ ?_
   | refine LeO.bind ?_ (fun _ => ?_)
  ·intro y0 y1 y2 y3
   unfold calamusref11_Right.l0
   repeat' first
   | (with_reducible exact ih0 _ _ _)
   | (with_reducible exact ih1 _ _ _ _)
   | (with_reducible exact ih2 _ _ _ _ _ _ _ _ _ _ _ _)
   | (with_reducible exact ih3 _ _ _ _ _ _ _ _ _ _ _ _)
   | (with_reducible exact ih4 _ _ _ _)
   | (with_reducible exact LeO.refl _)
   | (with_reducible exact LeO.none _)
   | (with_reducible refine LeO.ite ?_ ?_)
   | (with_reducible refine LeO.bind ?_ (fun _ => ?_))
   | exact ih0 _ _ _
   | exact ih1 _ _ _ _
   | exact ih2 _ _ _ _ _ _ _ _ _ _ _ _
   | exact ih3 _ _ _ _ _ _ _ _ _ _ _ _
   | exact ih4 _ _ _ _
   | exact LeO.none _
   | refine LeO.ite ?_ ?_
   | refine LeO.bind ?_ (fun _ => ?_)
  ·intro y0 y1 y2 y3 y4 y5 y6 y7 y8 y9 y10 y11
   unfold calamusref11_Right.j2
   repeat' first
   | (with_reducible exact ih0 _ _ _)
   | (with_reducible exact ih1 _ _ _ _)
   | (with_reducible exact ih2 _ _ _ _ _ _ _ _ _ _ _ _)
   | (with_reducible exact ih3 _ _ _ _ _ _ _ _ _ _ _ _)
   | (with_reducible exact ih4 _ _ _ _)
   | (with_reducible exact LeO.refl _)
   | (with_reducible exact LeO.none _)
   | (with_reducible refine LeO.ite ?_ ?_)
   | (with_reducible refine LeO.bind ?_ (fun _ => ?_))
   | exact ih0 _ _ _
   | exact ih1 _ _ _ _
   | exact ih2 _ _ _ _ _ _ _ _ _ _ _ _
   | exact ih3 _ _ _ _ _ _ _ _ _ _ _ _
   | exact ih4 _ _ _ _
   | exact LeO.none _
   | refine LeO.ite ?_ ?_
   | refine LeO.bind ?_ (fun _ => ?_)
  ·intro y0 y1 y2 y3 y4 y5 y6 y7 y8 y9 y10 y11
   unfold calamusref11_Right.j3
   repeat' first
   | (with_reducible exact ih0 _ _ _)
   | (with_reducible exact ih1 _ _ _ _)
   | (with_reducible exact ih2 _ _ _ _ _ _ _ _ _ _ _ _)
   | (with_reducible exact ih3 _ _ _ _ _ _ _ _ _ _ _ _)
   | (with_reducible exact ih4 _ _ _ _)
   | (with_reducible exact LeO.refl _)
   | (with_reducible exact LeO.none _)
   | (with_reducible refine LeO.ite ?_ ?_)
   | (with_reducible refine LeO.bind ?_ (fun _ => ?_))
   | exact ih0 _ _ _
   | exact ih1 _ _ _ _
   | exact ih2 _ _ _ _ _ _ _ _ _ _ _ _
   | exact ih3 _ _ _ _ _ _ _ _ _ _ _ _
   | exact ih4 _ _ _ _
   | exact LeO.none _
   | refine LeO.ite ?_ ?_
   | refine LeO.bind ?_ (fun _ => ?_)
  ·intro y0 y1 y2 y3
   unfold calamusref11_Right.l1
   repeat' first
   | (with_reducible exact ih0 _ _ _)
   | (with_reducible exact ih1 _ _ _ _)
   | (with_reducible exact ih2 _ _ _ _ _ _ _ _ _ _ _ _)
   | (with_reducible exact ih3 _ _ _ _ _ _ _ _ _ _ _ _)
   | (with_reducible exact ih4 _ _ _ _)
   | (with_reducible exact LeO.refl _)
   | (with_reducible exact LeO.none _)
   | (with_reducible refine LeO.ite ?_ ?_)
   | (with_reducible refine LeO.bind ?_ (fun _ => ?_))
   | exact ih0 _ _ _
   | exact ih1 _ _ _ _
   | exact ih2 _ _ _ _ _ _ _ _ _ _ _ _
   | exact ih3 _ _ _ _ _ _ _ _ _ _ _ _
   | exact ih4 _ _ _ _
   | exact LeO.none _
   | refine LeO.ite ?_ ?_
   | refine LeO.bind ?_ (fun _ => ?_)
theorem calamusref11_Right.mono : ∀ a0 a1 k, LeO (calamusref11_Right.f k a0 a1) (calamusref11_Right.f (k + 1) a0 a1) := by
 intro a0 a1 k
 obtain ⟨ih0, ih1, ih2, ih3, ih4⟩ := calamusref11_Right.mono_l k
 unfold calamusref11_Right.f
 repeat' first
   | (with_reducible exact ih0 _ _ _)
   | (with_reducible exact ih1 _ _ _ _)
   | (with_reducible exact ih2 _ _ _ _ _ _ _ _ _ _ _ _)
   | (with_reducible exact ih3 _ _ _ _ _ _ _ _ _ _ _ _)
   | (with_reducible exact ih4 _ _ _ _)
   | (with_reducible exact LeO.refl _)
   | (with_reducible exact LeO.none _)
   | (with_reducible refine LeO.ite ?_ ?_)
   | (with_reducible refine LeO.bind ?_ (fun _ => ?_))
   | exact ih0 _ _ _
   | exact ih1 _ _ _ _
   | exact ih2 _ _ _ _ _ _ _ _ _ _ _ _
   | exact ih3 _ _ _ _ _ _ _ _ _ _ _ _
   | exact ih4 _ _ _ _
   | exact LeO.none _
   | refine LeO.ite ?_ ?_
   | refine LeO.bind ?_ (fun _ => ?_)
set_option maxHeartbeats 8000000 in
set_option maxRecDepth 100000 in
theorem calamusref11_Right.calls (k : Nat) (A0_0 : Option Addr) (c0_0 : Nat) (l0_0 : List (S69)) (a0_1 : Int) (r : Bool) (w : World) (hr0_0 : Kd.C k69 w A0_0 l0_0.length l0_0) (hc0_0 : l0_0.length ≤ c0_0) (h : calamusref11_Right.f k l0_0 a0_1 = some r) :
  Calls Try.prog 37 #[.agg #[.slice A0_0 l0_0.length c0_0, .int .i64 a0_1]] w fun e w' => e = .returned (.bool r) ∧ Below w.heap.size w w' := by
 have hu46 := Try.underlying46
 have hu69 := Try.underlying69
 have hu24 := Try.underlying24
 have HR0_0 := Aside0.mk hr0_0
 have HC0_0 := Aside0.mk hc0_0
 clear hr0_0 hc0_0
 have HB := Aside0.mk (Below.refl w.heap.size w)
 have H : (if (l0_0.length : Int) < 1 then (calamusref11_Right.j0 k true l0_0 a0_1) else (if (l0_0.length : Int) > 1024 then (calamusref11_Right.j0 k true l0_0 a0_1) else ((calamusref11_has.f l0_0 a0_1 a0_1).bind fun t221 => (calamusref11_Right.j0 k (!t221) l0_0 a0_1)))) = some r := h
 clear h
 have HC2 := Aside0.mk H
 clear H
 go_enter Try.func37, Try.ntmps37
 go_upto_region 1 with (first | ((with_reducible refine gate_dst (N := 1) rfl ?_); (try (refine gate_guard (by rfl) ?_; dsimp only)); refine be_ (N := 1) (cs := #[.slice A0_0 l0_0.length c0_0, .int .i64 a0_1]) (t := 46) (h := ?_); intro gb220 hg w3 hbox hb; have BK220 := Aside0.mk (hbox); have GW220 := gw_ HB hg; have GE220 := gw_ HB hg; replace HB := bs_ HB hb; clear hb hbox hg))
 (try simp only [Act.put, List.setIfInBounds_toArray, List.set_cons_zero, List.set_cons_succ])
 go_cut [24] (fun v24 wc => ∃ (kq : Nat) (x24_1 : Bool), v24 = .bool x24_1 ∧ Aside0 (calamusref11_Right.j0 kq x24_1 l0_0 a0_1 = some r) ∧ Aside0 (kq ≤ k) ∧ Aside0 (wc.heap[gb220]? = some (.cells #[(.slice A0_0 l0_0.length c0_0), .int .i64 a0_1] 46 (0, 0))) ∧ Aside0 (Below w.heap.size w wc))
 case first =>
  have H := HC2.out
  clear HC2
  by_cases c4 : (l0_0.length : Int) < 1
  ·rw [if_pos c4] at H
   have c4b0 : decide ((l0_0.length : Int) < 1) = true := decide_eq_true c4
   have c4b1 : decide (l0_0.length < 1) = true := decide_eq_true (by omega)
   clear c4
   (first | rw [c4b0] | (simp only [i64_w, i32_w]; rw [c4b0]) | skip)
   have H' := Aside0.mk H
   clear H
   obtain ⟨hcz5_0, hcz5_1, hfz5_0, hfz5_1⟩ := bc2_ BK220
   go_wp2
   go_meet
   case rel => exact ⟨_, (true), es_, H', ⟨by first | omega | exact Nat.le_refl _⟩, ⟨bw_ BK220.out⟩, ⟨hb_ HB⟩⟩
  ·rw [if_neg c4] at H
   have c4b0 : decide ((l0_0.length : Int) < 1) = false := decide_eq_false c4
   have c4b1 : decide (l0_0.length < 1) = false := decide_eq_false (by omega)
   clear c4
   (first | rw [c4b0] | (simp only [i64_w, i32_w]; rw [c4b0]) | skip)
   by_cases c6 : (l0_0.length : Int) > 1024
   ·rw [if_pos c6] at H
    have c6b0 : decide (1024 < (l0_0.length : Int)) = true := decide_eq_true c6
    have c6b1 : decide (1024 < l0_0.length) = true := decide_eq_true (by omega)
    clear c6
    have H' := Aside0.mk H
    clear H
    obtain ⟨hcz7_0, hcz7_1, hfz7_0, hfz7_1⟩ := bc2_ BK220
    go_wp2
    go_meet
    case rel => exact ⟨_, (true), es_, H', ⟨by first | omega | exact Nat.le_refl _⟩, ⟨bw_ BK220.out⟩, ⟨hb_ HB⟩⟩
   ·rw [if_neg c6] at H
    have c6b0 : decide (1024 < (l0_0.length : Int)) = false := decide_eq_false c6
    have c6b1 : decide (1024 < l0_0.length) = false := decide_eq_false (by omega)
    clear c6
    replace H := Option.bind_eq_some_iff.mp H
    obtain ⟨t221, A80, H⟩ := H
    replace H : (calamusref11_Right.j0 k (!t221) l0_0 a0_1) = some r := H
    have A8 := Aside0.mk A80
    clear A80
    have H' := Aside0.mk H
    clear H
    obtain ⟨hcz9_0, hcz9_1, hfz9_0, hfz9_1⟩ := bc2_ BK220
    go_wp2_with (first | (go_at_call 82; (with_reducible refine (calamusref11_has.calls _ _ l0_0 a0_1 a0_1 t221 _ ?side1 ?side2 A8.out).mono ?_); (case side1 => exact cw_ (Kd.C_below HR0_0.out HB.out)); (case side2 => exact HC0_0.out); rintro e w10 ⟨rfl, hb⟩; replace BK220 := bb_ BK220 hb; replace HB := bs_ HB hb; (try clear hb); (try clear hb2); (try clear hk); (try clear hi)))
    go_meet
    case rel => exact ⟨_, (!t221), es_, H', ⟨by first | omega | exact Nat.le_refl _⟩, ⟨bw_ BK220.out⟩, ⟨hb_ HB⟩⟩
 case rest =>
  clear HC2
  obtain ⟨kq, x24_1, rfl, HA, HJ1, BK220, HB⟩ := hcut
  cases kq with
  | zero => exact absurd HA.out (by simp [calamusref11_Right.j0])
  | succ kj1 =>
   have H := HA.out
   clear HA
   simp only [calamusref11_Right.j0] at H
   by_cases c11 : x24_1 = true
   ·subst c11
    have H1 : (some false) = some r := by rw [if_pos rfl] at H; exact H
    clear H
    have H := H1
    clear H1
    obtain rfl := Option.some.inj H
    go_wp2
    go_ret
    exact ⟨er_, hb_ HB⟩
   ·replace c11 := Bool.eq_false_iff.mpr c11
    subst c11
    have H1 : (if 0 ≤ (l0_0.length : Int) then (if ((l0_0.length : Int) : Int).toNat ≤ 35184372088832 then (calamusref11_Right.l0 kj1 (List.replicate ((l0_0.length : Int) : Int).toNat 0) 0 l0_0 a0_1) else (none)) else (none)) = some r := by rw [if_neg (show ¬ (false = true) by decide)] at H; exact H
    clear H
    have H := H1
    clear H1
    by_cases c12 : 0 ≤ (l0_0.length : Int)
    ·rw [if_pos c12] at H
     have c12b0 := eq_true c12
     have c12b1 : decide (0 ≤ (l0_0.length : Int)) = true := decide_eq_true c12
     clear c12
     by_cases c13 : ((l0_0.length : Int) : Int).toNat ≤ 35184372088832
     ·rw [if_pos c13] at H
      have c13b0 := eq_true c13
      have c13b1 : decide (((l0_0.length : Int) : Int).toNat ≤ 35184372088832) = true := decide_eq_true c13
      clear c13
      obtain ⟨y222, hy222⟩ : ∃ y_ : List Int, y_ = (List.replicate ((l0_0.length : Int) : Int).toNat 0) := ⟨_, rfl⟩
      replace H : (calamusref11_Right.l0 kj1 y222 0 l0_0 a0_1) = some r := th_ H hy222
      have Ny222 := Aside0.mk hy222
      clear hy222
      have H' := Aside0.mk H
      clear H
      obtain ⟨hcz14_0, hcz14_1, hfz14_0, hfz14_1⟩ := bc2_ BK220
      go_wp2_with (first | ((with_reducible refine gate_dst (N := 28) rfl ?_); (try (refine gate_guard (by rfl) ?_; dsimp only)); refine Kd.R_make (Kd.int .i64) _ 3 rfl (N := 28) rfl 59 _ _ rfl (l0_0.length : Int) rfl rfl Try.underlying59 (.int .i64 0) 8 info3 rfl (by decide) (by omega) 0 (ok := fun _ => True) (okp := fun _ => True) rfl (fun _ hk => hk) trivial (of_decide_eq_true as_) (Nat.le_trans (Nat.mul_le_mul_right _ (of_decide_eq_true as_ : (l0_0.length : Int).toNat ≤ 35184372088832)) (by omega)) (Below.refl _ _) (Nat.le_refl _) ?_; intro v223 w15 ho16 hb hg_ hnew_; clear hg_ hnew_; (first | rw [← Ny222.out] at ho16 | (simp only [Int.reduceToNat] at ho16; rw [← Ny222.out] at ho16)); have HO224 := Aside0.mk (Kd.R_lower ho16 (below_size (hb_ HB))); replace BK220 := bb_ BK220 hb; replace HB := bs_ HB hb; clear hb ho16))
      go_loopg [4] kj1 (fun kq v4 w' => ∃ (x3_2 : List Int) (x4_2 : Int), v4 = .int .i64 x4_2 ∧ Aside0 (calamusref11_Right.l0 kq x3_2 x4_2 l0_0 a0_1 = some r) ∧ Aside0 (kq ≤ kj1) ∧ Aside0 (Kd.R (Kd.int .i64) 3 w' w.heap.size (fun _ => True) v223 x3_2) ∧ Aside0 (w'.heap[gb220]? = some (.cells #[(.slice A0_0 l0_0.length c0_0), .int .i64 a0_1] 46 (0, 0))) ∧ Aside0 (Below w.heap.size w w'))
      case atStart => exact ⟨(y222), (0), es_, H', ⟨Nat.le_refl _⟩, ⟨rw_ HO224.out⟩, ⟨bw_ BK220.out⟩, ⟨hb_ HB⟩⟩
      case round =>
       clear H'
       try clear c11
       try clear c12
       try clear c12b0
       try clear c12b1
       try clear c13
       try clear c13b0
       try clear c13b1
       try clear hcz14_0
       try clear hcz14_1
       try clear hfz14_0
       try clear hfz14_1
       obtain ⟨x3_2, x4_2, rfl, HA, HK2, HO_3, BK220, HB⟩ := hrel
       cases gk with
       | zero => exact absurd HA.out (by simp [calamusref11_Right.l0])
       | succ k2 =>
        have H := HA.out
        clear HA
        simp only [calamusref11_Right.l0] at H
        by_cases c17 : x4_2 < (l0_0.length : Int)
        ·rw [if_pos c17] at H
         have c17b0 : decide (x4_2 < (l0_0.length : Int)) = true := decide_eq_true c17
         clear c17
         by_cases c18 : 0 ≤ x4_2
         ·rw [if_pos c18] at H
          have c18b0 : decide (0 ≤ x4_2) = true := decide_eq_true c18
          clear c18
          have HC19 := Aside0.mk H
          clear H
          obtain ⟨hcz20_0, hcz20_1, hfz20_0, hfz20_1⟩ := bc2_ BK220
          have p225 : 0 ≤ (x4_2 : Int) := of_decide_eq_true as_
          have q225 : x4_2 < (l0_0.length : Int) := of_decide_eq_true as_
          obtain ⟨ad225, e225, hx225_0, hx225_1, hx225_2, hx225_3, hx225_4, hx225_5, hx225_6⟩ := at_T69b HR0_0 HB x4_2 p225 q225
          cases e225
          replace p225 := eq_true p225
          replace q225 := eq_true q225
          go_upto_region 8 with (first | ((with_reducible refine gate_dst (N := 5) rfl ?_); (try (refine gate_guard (by rfl) ?_; dsimp only)); refine be_ (N := 5) (cs := #[.int .i64 0, .int .i64 0, .int .i64 0, .int .i64 0, .int .i64 0, .string (⟨#[]⟩ : ByteArray), .string (⟨#[]⟩ : ByteArray)]) (t := 69) (h := ?_); intro gb226 hg w21 hbox hb; have BK226 := Aside0.mk (hbox); have GW226 := gw_ HB hg; have GE226 := gw_ HB hg; have NB220_226 := ne_ BK220 hg; have NB226_220 := en_ BK220 hg; replace HO_3 := Aside0.mk (Kd.R_below (rw_ HO_3.out) hb); replace BK220 := bb_ BK220 hb; replace HB := bs_ HB hb; clear hb hbox hg; have hnb22 := NB226_220.out; have hnc22 := NB220_226.out; obtain ⟨hcz23_0, hcz23_1, hcz23_2, hcz23_3, hcz23_4, hcz23_5, hcz23_6, hfz23_0, hfz23_1, hfz23_2, hfz23_3, hfz23_4, hfz23_5, hfz23_6⟩ := bc7_ BK226))
          (try simp only [Act.put, List.setIfInBounds_toArray, List.set_cons_zero, List.set_cons_succ])
          go_cut [63] (fun v63 wc => ∃ (kq : Nat) (x63_18 : Bool), v63 = .bool x63_18 ∧ Aside0 (calamusref11_Right.j2 kq x3_2 x4_2 x63_18 l0_0 a0_1 ((rd_T69 l0_0 x4_2).f0) ((rd_T69 l0_0 x4_2).f1) ((rd_T69 l0_0 x4_2).f2) ((rd_T69 l0_0 x4_2).f3) ((rd_T69 l0_0 x4_2).f4.f0) ((rd_T69 l0_0 x4_2).f4.f1) ((rd_T69 l0_0 x4_2).f4.f2) = some r) ∧ Aside0 (kq ≤ k2) ∧ Aside0 (Kd.R (Kd.int .i64) 3 wc w.heap.size (fun _ => True) v223 x3_2) ∧ Aside0 (wc.heap[gb220]? = some (.cells #[(.slice (some ad225) l0_0.length c0_0), .int .i64 a0_1] 46 (0, 0))) ∧ Aside0 (wc.heap[gb226]? = some (.cells #[.int .i64 ((rd_T69 l0_0 x4_2).f0), .int .i64 ((rd_T69 l0_0 x4_2).f1), .int .i64 ((rd_T69 l0_0 x4_2).f2), .int .i64 ((rd_T69 l0_0 x4_2).f3), .int .i64 ((rd_T69 l0_0 x4_2).f4.f0), .string ((rd_T69 l0_0 x4_2).f4.f1), .string ((rd_T69 l0_0 x4_2).f4.f2)] 69 (0, 0))) ∧ Aside0 (Below w.heap.size w wc))
          case first =>
           have H := HC19.out
           clear HC19
           by_cases c24 : x4_2 = 0
           ·rw [if_pos c24] at H
            have c24b0 : (x4_2 == 0) = true := beq_iff_eq.mpr c24
            have c24b1 : (x4_2 != 0) = false := bne_eq_false_iff_eq.mpr c24
            clear c24
            (first | rw [c24b0] | (simp only [i64_w, i32_w]; rw [c24b0]) | skip)
            by_cases c25 : ((rd_T69 l0_0 x4_2).f0) = (-1)
            ·rw [if_pos c25] at H
             have c25b0 : (((rd_T69 l0_0 x4_2).f0) == (-1)) = true := beq_iff_eq.mpr c25
             have c25b1 : (((rd_T69 l0_0 x4_2).f0) != (-1)) = false := bne_eq_false_iff_eq.mpr c25
             clear c25
             by_cases c26 : ((rd_T69 l0_0 x4_2).f2) = 0
             ·rw [if_pos c26] at H
              have c26b0 : (((rd_T69 l0_0 x4_2).f2) == 0) = true := beq_iff_eq.mpr c26
              have c26b1 : (((rd_T69 l0_0 x4_2).f2) != 0) = false := bne_eq_false_iff_eq.mpr c26
              clear c26
              by_cases c27 : ((rd_T69 l0_0 x4_2).f3) = 0
              ·rw [if_pos c27] at H
               have c27b0 : (((rd_T69 l0_0 x4_2).f3) == 0) = true := beq_iff_eq.mpr c27
               have c27b1 : (((rd_T69 l0_0 x4_2).f3) != 0) = false := bne_eq_false_iff_eq.mpr c27
               clear c27
               have H' := Aside0.mk H
               clear H
               have hnb28 := NB226_220.out
               have hnc28 := NB220_226.out
               obtain ⟨hcz29_0, hcz29_1, hcz29_2, hcz29_3, hcz29_4, hcz29_5, hcz29_6, hfz29_0, hfz29_1, hfz29_2, hfz29_3, hfz29_4, hfz29_5, hfz29_6⟩ := bc7_ BK226
               go_wp2
               go_meet
               case rel => exact ⟨_, ((!(((rd_T69 l0_0 x4_2).f4.f0) == 0) || (!((((rd_T69 l0_0 x4_2).f4.f1).toList) == ([] : List UInt8)) || (!((((rd_T69 l0_0 x4_2).f4.f2).toList) == ([] : List UInt8)))))), es_, H', ⟨by have := HJ1.out; have := HK2.out; first | omega | exact Nat.le_refl _⟩, ⟨by (with_reducible repeat (first | apply Kd.R_alloc | apply Kd.R_drewN | apply Kd.R_drew)); exact Kd.R_mono (rf_ (Kd.R_types HO_3.out BK226.out (by decide)) (fun _ hk => hk.2)) (fun _ hk => trivial)⟩, ⟨bp_ BK220.out⟩, ⟨bp_ BK226.out⟩, ⟨hb_ HB⟩⟩
              ·rw [if_neg c27] at H
               have c27b0 : (((rd_T69 l0_0 x4_2).f3) == 0) = false := beq_eq_false_iff_ne.mpr c27
               have c27b1 : (((rd_T69 l0_0 x4_2).f3) != 0) = true := bne_iff_ne.mpr c27
               have H' := Aside0.mk H
               clear H
               have hnb30 := NB226_220.out
               have hnc30 := NB220_226.out
               obtain ⟨hcz31_0, hcz31_1, hcz31_2, hcz31_3, hcz31_4, hcz31_5, hcz31_6, hfz31_0, hfz31_1, hfz31_2, hfz31_3, hfz31_4, hfz31_5, hfz31_6⟩ := bc7_ BK226
               go_wp2
               go_meet
               case rel => exact ⟨_, (true), es_, H', ⟨by have := HJ1.out; have := HK2.out; first | omega | exact Nat.le_refl _⟩, ⟨by (with_reducible repeat (first | apply Kd.R_alloc | apply Kd.R_drewN | apply Kd.R_drew)); exact Kd.R_mono (rf_ (Kd.R_types HO_3.out BK226.out (by decide)) (fun _ hk => hk.2)) (fun _ hk => trivial)⟩, ⟨bp_ BK220.out⟩, ⟨bp_ BK226.out⟩, ⟨hb_ HB⟩⟩
             ·rw [if_neg c26] at H
              have c26b0 : (((rd_T69 l0_0 x4_2).f2) == 0) = false := beq_eq_false_iff_ne.mpr c26
              have c26b1 : (((rd_T69 l0_0 x4_2).f2) != 0) = true := bne_iff_ne.mpr c26
              have H' := Aside0.mk H
              clear H
              have hnb32 := NB226_220.out
              have hnc32 := NB220_226.out
              obtain ⟨hcz33_0, hcz33_1, hcz33_2, hcz33_3, hcz33_4, hcz33_5, hcz33_6, hfz33_0, hfz33_1, hfz33_2, hfz33_3, hfz33_4, hfz33_5, hfz33_6⟩ := bc7_ BK226
              go_wp2
              go_meet
              case rel => exact ⟨_, (true), es_, H', ⟨by have := HJ1.out; have := HK2.out; first | omega | exact Nat.le_refl _⟩, ⟨by (with_reducible repeat (first | apply Kd.R_alloc | apply Kd.R_drewN | apply Kd.R_drew)); exact Kd.R_mono (rf_ (Kd.R_types HO_3.out BK226.out (by decide)) (fun _ hk => hk.2)) (fun _ hk => trivial)⟩, ⟨bp_ BK220.out⟩, ⟨bp_ BK226.out⟩, ⟨hb_ HB⟩⟩
            ·rw [if_neg c25] at H
             have c25b0 : (((rd_T69 l0_0 x4_2).f0) == (-1)) = false := beq_eq_false_iff_ne.mpr c25
             have c25b1 : (((rd_T69 l0_0 x4_2).f0) != (-1)) = true := bne_iff_ne.mpr c25
             have H' := Aside0.mk H
             clear H
             have hnb34 := NB226_220.out
             have hnc34 := NB220_226.out
             obtain ⟨hcz35_0, hcz35_1, hcz35_2, hcz35_3, hcz35_4, hcz35_5, hcz35_6, hfz35_0, hfz35_1, hfz35_2, hfz35_3, hfz35_4, hfz35_5, hfz35_6⟩ := bc7_ BK226
             go_wp2
             go_meet
             case rel => exact ⟨_, (true), es_, H', ⟨by have := HJ1.out; have := HK2.out; first | omega | exact Nat.le_refl _⟩, ⟨by (with_reducible repeat (first | apply Kd.R_alloc | apply Kd.R_drewN | apply Kd.R_drew)); exact Kd.R_mono (rf_ (Kd.R_types HO_3.out BK226.out (by decide)) (fun _ hk => hk.2)) (fun _ hk => trivial)⟩, ⟨bp_ BK220.out⟩, ⟨bp_ BK226.out⟩, ⟨hb_ HB⟩⟩
           ·rw [if_neg c24] at H
            have c24b0 : (x4_2 == 0) = false := beq_eq_false_iff_ne.mpr c24
            have c24b1 : (x4_2 != 0) = true := bne_iff_ne.mpr c24
            (first | rw [c24b0] | (simp only [i64_w, i32_w]; rw [c24b0]) | skip)
            have H' := Aside0.mk H
            clear H
            go_wp2
            go_meet
            case rel => exact ⟨_, (false), es_, H', ⟨by have := HJ1.out; have := HK2.out; first | omega | exact Nat.le_refl _⟩, ⟨by (with_reducible repeat (first | apply Kd.R_alloc | apply Kd.R_drewN | apply Kd.R_drew)); exact Kd.R_mono (rf_ (Kd.R_types HO_3.out BK226.out (by decide)) (fun _ hk => hk.2)) (fun _ hk => trivial)⟩, ⟨bp_ BK220.out⟩, ⟨bp_ BK226.out⟩, ⟨hb_ HB⟩⟩
          case rest =>
           clear HC19
           try clear c11
           try clear c12
           try clear c12b0
           try clear c12b1
           try clear c13
           try clear c13b0
           try clear c13b1
           try clear c17
           try clear c17b0
           try clear c18
           try clear c18b0
           try clear hcz14_0
           try clear hcz14_1
           try clear hcz20_0
           try clear hcz20_1
           try clear hcz23_0
           try clear hcz23_1
           try clear hcz23_2
           try clear hcz23_3
           try clear hcz23_4
           try clear hcz23_5
           try clear hcz23_6
           try clear hfz14_0
           try clear hfz14_1
           try clear hfz20_0
           try clear hfz20_1
           try clear hfz23_0
           try clear hfz23_1
           try clear hfz23_2
           try clear hfz23_3
           try clear hfz23_4
           try clear hfz23_5
           try clear hfz23_6
           try clear hx225_0
           try clear hx225_1
           try clear hx225_2
           try clear hx225_3
           try clear hx225_4
           try clear hx225_5
           try clear hx225_6
           try clear p225
           try clear q225
           obtain ⟨kq, x63_18, rfl, HA, HJ18, HO_3, BK220, BK226, HB⟩ := hcut
           cases kq with
           | zero => exact absurd HA.out (by simp [calamusref11_Right.j2])
           | succ kj18 =>
            have H := HA.out
            clear HA
            simp only [calamusref11_Right.j2] at H
            by_cases c36 : x63_18 = true
            ·subst c36
             have H1 : (some false) = some r := by rw [if_pos rfl] at H; exact H
             clear H
             have H := H1
             clear H1
             obtain rfl := Option.some.inj H
             go_wp2
             go_ret
             exact ⟨er_, hb_ HB⟩
            ·replace c36 := Bool.eq_false_iff.mpr c36
             subst c36
             have H1 : (if x4_2 > 0 then (if ((rd_T69 l0_0 x4_2).f0) < 0 then (calamusref11_Right.j3 kj18 x3_2 x4_2 true l0_0 a0_1 ((rd_T69 l0_0 x4_2).f0) ((rd_T69 l0_0 x4_2).f1) ((rd_T69 l0_0 x4_2).f2) ((rd_T69 l0_0 x4_2).f3) ((rd_T69 l0_0 x4_2).f4.f0) ((rd_T69 l0_0 x4_2).f4.f1) ((rd_T69 l0_0 x4_2).f4.f2)) else (if ((rd_T69 l0_0 x4_2).f0) ≥ x4_2 then (calamusref11_Right.j3 kj18 x3_2 x4_2 true l0_0 a0_1 ((rd_T69 l0_0 x4_2).f0) ((rd_T69 l0_0 x4_2).f1) ((rd_T69 l0_0 x4_2).f2) ((rd_T69 l0_0 x4_2).f3) ((rd_T69 l0_0 x4_2).f4.f0) ((rd_T69 l0_0 x4_2).f4.f1) ((rd_T69 l0_0 x4_2).f4.f2)) else (if ((rd_T69 l0_0 x4_2).f2) < 0 then (calamusref11_Right.j3 kj18 x3_2 x4_2 true l0_0 a0_1 ((rd_T69 l0_0 x4_2).f0) ((rd_T69 l0_0 x4_2).f1) ((rd_T69 l0_0 x4_2).f2) ((rd_T69 l0_0 x4_2).f3) ((rd_T69 l0_0 x4_2).f4.f0) ((rd_T69 l0_0 x4_2).f4.f1) ((rd_T69 l0_0 x4_2).f4.f2)) else (calamusref11_Right.j3 kj18 x3_2 x4_2 (decide (((rd_T69 l0_0 x4_2).f3) < 0)) l0_0 a0_1 ((rd_T69 l0_0 x4_2).f0) ((rd_T69 l0_0 x4_2).f1) ((rd_T69 l0_0 x4_2).f2) ((rd_T69 l0_0 x4_2).f3) ((rd_T69 l0_0 x4_2).f4.f0) ((rd_T69 l0_0 x4_2).f4.f1) ((rd_T69 l0_0 x4_2).f4.f2))))) else (calamusref11_Right.j3 kj18 x3_2 x4_2 false l0_0 a0_1 ((rd_T69 l0_0 x4_2).f0) ((rd_T69 l0_0 x4_2).f1) ((rd_T69 l0_0 x4_2).f2) ((rd_T69 l0_0 x4_2).f3) ((rd_T69 l0_0 x4_2).f4.f0) ((rd_T69 l0_0 x4_2).f4.f1) ((rd_T69 l0_0 x4_2).f4.f2))) = some r := by rw [if_neg (show ¬ (false = true) by decide)] at H; exact H
             clear H
             have H := H1
             clear H1
             have HC37 := Aside0.mk H
             clear H
             go_upto_region 10 with (fail)
             go_cut [86] (fun v86 wc => ∃ (kq : Nat) (x86_36 : Bool), v86 = .bool x86_36 ∧ Aside0 (calamusref11_Right.j3 kq x3_2 x4_2 x86_36 l0_0 a0_1 ((rd_T69 l0_0 x4_2).f0) ((rd_T69 l0_0 x4_2).f1) ((rd_T69 l0_0 x4_2).f2) ((rd_T69 l0_0 x4_2).f3) ((rd_T69 l0_0 x4_2).f4.f0) ((rd_T69 l0_0 x4_2).f4.f1) ((rd_T69 l0_0 x4_2).f4.f2) = some r) ∧ Aside0 (kq ≤ kj18) ∧ Aside0 (Kd.R (Kd.int .i64) 3 wc w.heap.size (fun _ => True) v223 x3_2) ∧ Aside0 (wc.heap[gb220]? = some (.cells #[(.slice (some ad225) l0_0.length c0_0), .int .i64 a0_1] 46 (0, 0))) ∧ Aside0 (wc.heap[gb226]? = some (.cells #[.int .i64 ((rd_T69 l0_0 x4_2).f0), .int .i64 ((rd_T69 l0_0 x4_2).f1), .int .i64 ((rd_T69 l0_0 x4_2).f2), .int .i64 ((rd_T69 l0_0 x4_2).f3), .int .i64 ((rd_T69 l0_0 x4_2).f4.f0), .string ((rd_T69 l0_0 x4_2).f4.f1), .string ((rd_T69 l0_0 x4_2).f4.f2)] 69 (0, 0))) ∧ Aside0 (Below w.heap.size w wc))
             case first =>
              have H := HC37.out
              clear HC37
              by_cases c38 : x4_2 > 0
              ·rw [if_pos c38] at H
               have c38b0 : decide (0 < x4_2) = true := decide_eq_true c38
               clear c38
               (first | rw [c38b0] | (simp only [i64_w, i32_w]; rw [c38b0]) | skip)
               by_cases c39 : ((rd_T69 l0_0 x4_2).f0) < 0
               ·rw [if_pos c39] at H
                have c39b0 : decide (((rd_T69 l0_0 x4_2).f0) < 0) = true := decide_eq_true c39
                clear c39
                have H' := Aside0.mk H
                clear H
                have hnb40 := NB226_220.out
                have hnc40 := NB220_226.out
                obtain ⟨hcz41_0, hcz41_1, hcz41_2, hcz41_3, hcz41_4, hcz41_5, hcz41_6, hfz41_0, hfz41_1, hfz41_2, hfz41_3, hfz41_4, hfz41_5, hfz41_6⟩ := bc7_ BK226
                go_wp2
                go_meet
                case rel => exact ⟨_, (true), es_, H', ⟨by have := HJ1.out; have := HK2.out; have := HJ18.out; first | omega | exact Nat.le_refl _⟩, ⟨rw_ HO_3.out⟩, ⟨bw_ BK220.out⟩, ⟨bw_ BK226.out⟩, ⟨hb_ HB⟩⟩
               ·rw [if_neg c39] at H
                have c39b0 : decide (((rd_T69 l0_0 x4_2).f0) < 0) = false := decide_eq_false c39
                clear c39
                by_cases c42 : ((rd_T69 l0_0 x4_2).f0) ≥ x4_2
                ·rw [if_pos c42] at H
                 have c42b0 : decide (x4_2 ≤ ((rd_T69 l0_0 x4_2).f0)) = true := decide_eq_true c42
                 clear c42
                 have H' := Aside0.mk H
                 clear H
                 have hnb43 := NB226_220.out
                 have hnc43 := NB220_226.out
                 obtain ⟨hcz44_0, hcz44_1, hcz44_2, hcz44_3, hcz44_4, hcz44_5, hcz44_6, hfz44_0, hfz44_1, hfz44_2, hfz44_3, hfz44_4, hfz44_5, hfz44_6⟩ := bc7_ BK226
                 go_wp2
                 go_meet
                 case rel => exact ⟨_, (true), es_, H', ⟨by have := HJ1.out; have := HK2.out; have := HJ18.out; first | omega | exact Nat.le_refl _⟩, ⟨rw_ HO_3.out⟩, ⟨bw_ BK220.out⟩, ⟨bw_ BK226.out⟩, ⟨hb_ HB⟩⟩
                ·rw [if_neg c42] at H
                 have c42b0 : decide (x4_2 ≤ ((rd_T69 l0_0 x4_2).f0)) = false := decide_eq_false c42
                 clear c42
                 by_cases c45 : ((rd_T69 l0_0 x4_2).f2) < 0
                 ·rw [if_pos c45] at H
                  have c45b0 : decide (((rd_T69 l0_0 x4_2).f2) < 0) = true := decide_eq_true c45
                  clear c45
                  have H' := Aside0.mk H
                  clear H
                  have hnb46 := NB226_220.out
                  have hnc46 := NB220_226.out
                  obtain ⟨hcz47_0, hcz47_1, hcz47_2, hcz47_3, hcz47_4, hcz47_5, hcz47_6, hfz47_0, hfz47_1, hfz47_2, hfz47_3, hfz47_4, hfz47_5, hfz47_6⟩ := bc7_ BK226
                  go_wp2
                  go_meet
                  case rel => exact ⟨_, (true), es_, H', ⟨by have := HJ1.out; have := HK2.out; have := HJ18.out; first | omega | exact Nat.le_refl _⟩, ⟨rw_ HO_3.out⟩, ⟨bw_ BK220.out⟩, ⟨bw_ BK226.out⟩, ⟨hb_ HB⟩⟩
                 ·rw [if_neg c45] at H
                  have c45b0 : decide (((rd_T69 l0_0 x4_2).f2) < 0) = false := decide_eq_false c45
                  clear c45
                  have H' := Aside0.mk H
                  clear H
                  have hnb48 := NB226_220.out
                  have hnc48 := NB220_226.out
                  obtain ⟨hcz49_0, hcz49_1, hcz49_2, hcz49_3, hcz49_4, hcz49_5, hcz49_6, hfz49_0, hfz49_1, hfz49_2, hfz49_3, hfz49_4, hfz49_5, hfz49_6⟩ := bc7_ BK226
                  go_wp2
                  go_meet
                  case rel => exact ⟨_, (decide (((rd_T69 l0_0 x4_2).f3) < 0)), es_, H', ⟨by have := HJ1.out; have := HK2.out; have := HJ18.out; first | omega | exact Nat.le_refl _⟩, ⟨rw_ HO_3.out⟩, ⟨bw_ BK220.out⟩, ⟨bw_ BK226.out⟩, ⟨hb_ HB⟩⟩
              ·rw [if_neg c38] at H
               have c38b0 : decide (0 < x4_2) = false := decide_eq_false c38
               clear c38
               (first | rw [c38b0] | (simp only [i64_w, i32_w]; rw [c38b0]) | skip)
               have H' := Aside0.mk H
               clear H
               go_wp2
               go_meet
               case rel => exact ⟨_, (false), es_, H', ⟨by have := HJ1.out; have := HK2.out; have := HJ18.out; first | omega | exact Nat.le_refl _⟩, ⟨rw_ HO_3.out⟩, ⟨bw_ BK220.out⟩, ⟨bw_ BK226.out⟩, ⟨hb_ HB⟩⟩
             case rest =>
              clear HC37
              try clear c11
              try clear c12
              try clear c12b0
              try clear c12b1
              try clear c13
              try clear c13b0
              try clear c13b1
              try clear c17
              try clear c17b0
              try clear c18
              try clear c18b0
              try clear c36
              try clear hcz14_0
              try clear hcz14_1
              try clear hcz20_0
              try clear hcz20_1
              try clear hcz23_0
              try clear hcz23_1
              try clear hcz23_2
              try clear hcz23_3
              try clear hcz23_4
              try clear hcz23_5
              try clear hcz23_6
              try clear hfz14_0
              try clear hfz14_1
              try clear hfz20_0
              try clear hfz20_1
              try clear hfz23_0
              try clear hfz23_1
              try clear hfz23_2
              try clear hfz23_3
              try clear hfz23_4
              try clear hfz23_5
              try clear hfz23_6
              try clear hx225_0
              try clear hx225_1
              try clear hx225_2
              try clear hx225_3
              try clear hx225_4
              try clear hx225_5
              try clear hx225_6
              try clear p225
              try clear q225
              obtain ⟨kq, x86_36, rfl, HA, HJ36, HO_3, BK220, BK226, HB⟩ := hcut
              cases kq with
              | zero => exact absurd HA.out (by simp [calamusref11_Right.j3])
              | succ kj36 =>
               have H := HA.out
               clear HA
               simp only [calamusref11_Right.j3] at H
               by_cases c50 : x86_36 = true
               ·subst c50
                have H1 : (some false) = some r := by rw [if_pos rfl] at H; exact H
                clear H
                have H := H1
                clear H1
                obtain rfl := Option.some.inj H
                go_wp2
                go_ret
                exact ⟨er_, hb_ HB⟩
               ·replace c50 := Bool.eq_false_iff.mpr c50
                subst c50
                have H1 : (if x4_2 > 0 then (if 0 ≤ ((rd_T69 l0_0 x4_2).f0) then (if ((rd_T69 l0_0 x4_2).f0) < (x3_2.length : Int) then (calamusref11_Right.l0 kj36 (x3_2.set (((rd_T69 l0_0 x4_2).f0) : Int).toNat (wrap64 ((rd x3_2 ((rd_T69 l0_0 x4_2).f0)) + 1))) (wrap64 (x4_2 + 1)) l0_0 a0_1) else (none)) else (none)) else (calamusref11_Right.l0 kj36 x3_2 (wrap64 (x4_2 + 1)) l0_0 a0_1)) = some r := by rw [if_neg (show ¬ (false = true) by decide)] at H; exact H
                clear H
                have H := H1
                clear H1
                by_cases c51 : x4_2 > 0
                ·rw [if_pos c51] at H
                 have c51b0 : decide (0 < x4_2) = true := decide_eq_true c51
                 clear c51
                 by_cases c52 : 0 ≤ ((rd_T69 l0_0 x4_2).f0)
                 ·rw [if_pos c52] at H
                  have c52b0 : decide (0 ≤ ((rd_T69 l0_0 x4_2).f0)) = true := decide_eq_true c52
                  clear c52
                  by_cases c53 : ((rd_T69 l0_0 x4_2).f0) < (x3_2.length : Int)
                  ·rw [if_pos c53] at H
                   have c53b0 : decide (((rd_T69 l0_0 x4_2).f0) < (x3_2.length : Int)) = true := decide_eq_true c53
                   clear c53
                   obtain ⟨y228, hy228⟩ : ∃ y_ : List Int, y_ = (x3_2.set (((rd_T69 l0_0 x4_2).f0) : Int).toNat (wrap64 ((rd x3_2 ((rd_T69 l0_0 x4_2).f0)) + 1))) := ⟨_, rfl⟩
                   replace H : (calamusref11_Right.l0 kj36 y228 (wrap64 (x4_2 + 1)) l0_0 a0_1) = some r := th_ H hy228
                   have Ny228 := Aside0.mk hy228
                   clear hy228
                   have H' := Aside0.mk H
                   clear H
                   have hnb55 := NB226_220.out
                   have hnc55 := NB220_226.out
                   obtain ⟨hcz56_0, hcz56_1, hcz56_2, hcz56_3, hcz56_4, hcz56_5, hcz56_6, hfz56_0, hfz56_1, hfz56_2, hfz56_3, hfz56_4, hfz56_5, hfz56_6⟩ := bc7_ BK226
                   obtain ⟨Ao57, co57, eo57⟩ := Kd.R_slice HO_3.out
                   subst eo57
                   have p227 : 0 ≤ (((rd_T69 l0_0 x4_2).f0) : Int) := of_decide_eq_true as_
                   have q227 : ((rd_T69 l0_0 x4_2).f0) < (x3_2.length : Int) := of_decide_eq_true as_
                   obtain ⟨ad227, e227, hx227_0⟩ := Kd.at_int (Kd.R_reads' HO_3.out).2.2 ((rd_T69 l0_0 x4_2).f0) p227 q227
                   cases e227
                   replace p227 := eq_true p227
                   replace q227 := eq_true q227
                   have p54 : 0 ≤ (((rd_T69 l0_0 x4_2).f0) : Int) := of_decide_eq_true as_
                   have q54 : (((rd_T69 l0_0 x4_2).f0) : Int) < ((x3_2.length : Int) : Int) := of_decide_eq_true as_
                   obtain ⟨go54, co54, eo54, gb54, gl54, cl54, HG54⟩ := Kd.R_form HO_3.out (by omega)
                   (first | cases eo54 | (injection eo54 with ea_ en_ ec_; (first | subst ea_ | (injection ea_ with ea_; subst ea_)); subst ec_; clear en_))
                   have GB54 := Aside0.mk gb54
                   have GG54 := Aside0.mk HG54
                   clear gb54 gl54 HG54
                   (first | simp only [add_plain] at hx227_0 | skip)
                   obtain ⟨hx54_0, hf54_0⟩ := Kd.R_celln 0 HO_3.out (((rd_T69 l0_0 x4_2).f0) : Int) p54 q54
                   replace p54 := eq_true p54
                   replace q54 := eq_true q54
                   have HP58 := Kd.R_putg HO_3.out (((rd_T69 l0_0 x4_2).f0) : Int) (wrap64 ((rd x3_2 ((rd_T69 l0_0 x4_2).f0)) + 1))
                   go_wp2_with (first | ((with_reducible refine gate_store (t := 3) (p := 95) rfl ?_); refine store_event (t := 3) (p := 95) (v := ?vo_w59) (w1 := (wc.setCell ⟨go54, (((rd_T69 l0_0 x4_2).f0) : Int).toNat, none⟩ (.int .i64 (wrap64 ((rd x3_2 ((rd_T69 l0_0 x4_2).f0)) + 1))))) ?hg ?ho ?hn ?hr ?_; (case ho => rfl); (case hg => rfl); (case hn => rfl); (case hr => first | (go_simp; done) | (go_simp; rfl)); intro w59 hw; have hg : wc.grownBy w59 (some go54) := (by rw [hw]; exact HP58.2); have hp_ : Kd.R (Kd.int .i64) 3 w59 w.heap.size (fun _ => True) (.slice (some ⟨go54, 0, none⟩) x3_2.length co57) y228 := (by rw [hw, Ny228.out]; exact HP58.1); clear HP58; replace BK220 := Aside0.mk (blk_grown (g := gb220) (o := .cells #[.slice (some ad225) l0_0.length c0_0, .int .i64 a0_1] 46 (0, 0)) (bw_ BK220.out) hg (Kd.R_ne HO_3.out BK220.out (by decide))); replace BK226 := Aside0.mk (blk_grown (g := gb226) (o := .cells #[.int .i64 ((rd_T69 l0_0 x4_2).f0), .int .i64 ((rd_T69 l0_0 x4_2).f1), .int .i64 ((rd_T69 l0_0 x4_2).f2), .int .i64 ((rd_T69 l0_0 x4_2).f3), .int .i64 ((rd_T69 l0_0 x4_2).f4.f0), .string ((rd_T69 l0_0 x4_2).f4.f1), .string ((rd_T69 l0_0 x4_2).f4.f2)] 69 (0, 0)) (bw_ BK226.out) hg (Kd.R_ne HO_3.out BK226.out (by decide))); replace HB := Aside0.mk ((by rw [hw]; exact below_set (HB.out) GB54.out : Below w.heap.size w w59)); replace HO_3 := Aside0.mk (hp_); clear hg hw hp_))
                   go_roundg kj36
                   case measure => have := HJ1.out; have := HK2.out; have := HJ18.out; have := HJ36.out; omega
                   case rel => exact ⟨(y228), (wrap64 (x4_2 + 1)), es_, H', ⟨by have := HJ1.out; have := HK2.out; have := HJ18.out; have := HJ36.out; omega⟩, ⟨rw_ HO_3.out⟩, ⟨bw_ BK220.out⟩, ⟨hb_ HB⟩⟩
                  ·rw [if_neg c53] at H
                   exact absurd H (by simp)
                 ·rw [if_neg c52] at H
                  exact absurd H (by simp)
                ·rw [if_neg c51] at H
                 have c51b0 : decide (0 < x4_2) = false := decide_eq_false c51
                 clear c51
                 have H' := Aside0.mk H
                 clear H
                 go_wp2
                 go_roundg kj36
                 case measure => have := HJ1.out; have := HK2.out; have := HJ18.out; have := HJ36.out; omega
                 case rel => exact ⟨(x3_2), (wrap64 (x4_2 + 1)), es_, H', ⟨by have := HJ1.out; have := HK2.out; have := HJ18.out; have := HJ36.out; omega⟩, ⟨rw_ HO_3.out⟩, ⟨bw_ BK220.out⟩, ⟨hb_ HB⟩⟩
         ·rw [if_neg c18] at H
          exact absurd H (by simp)
        ·rw [if_neg c17] at H
         have c17b0 : decide (x4_2 < (l0_0.length : Int)) = false := decide_eq_false c17
         clear c17
         have H' := Aside0.mk H
         clear H
         obtain ⟨hcz60_0, hcz60_1, hfz60_0, hfz60_1⟩ := bc2_ BK220
         go_wp2
         go_loopg [6] k2 (fun kq v6 w' => ∃ (x6_3 : Int), v6 = .int .i64 x6_3 ∧ Aside0 (calamusref11_Right.l1 kq x3_2 x6_3 l0_0 a0_1 = some r) ∧ Aside0 (kq ≤ k2) ∧ Aside0 (Kd.R (Kd.int .i64) 3 w' w.heap.size (fun _ => True) v223 x3_2) ∧ Aside0 (w'.heap[gb220]? = some (.cells #[(.slice A0_0 l0_0.length c0_0), .int .i64 a0_1] 46 (0, 0))) ∧ Aside0 (Below w.heap.size w w'))
         case atStart => exact ⟨(0), es_, H', ⟨Nat.le_refl _⟩, ⟨rw_ HO_3.out⟩, ⟨bw_ BK220.out⟩, ⟨hb_ HB⟩⟩
         case round =>
          clear H'
          try clear c11
          try clear c12
          try clear c12b0
          try clear c12b1
          try clear c13
          try clear c13b0
          try clear c13b1
          try clear c17
          try clear c17b0
          try clear hcz14_0
          try clear hcz14_1
          try clear hcz60_0
          try clear hcz60_1
          try clear hfz14_0
          try clear hfz14_1
          try clear hfz60_0
          try clear hfz60_1
          obtain ⟨x6_3, rfl, HA, HK3, HO_3, BK220, HB⟩ := hrel
          cases gk with
          | zero => exact absurd HA.out (by simp [calamusref11_Right.l1])
          | succ k3 =>
           have H := HA.out
           clear HA
           simp only [calamusref11_Right.l1] at H
           by_cases c61 : x6_3 < (l0_0.length : Int)
           ·rw [if_pos c61] at H
            have c61b0 : decide (x6_3 < (l0_0.length : Int)) = true := decide_eq_true c61
            clear c61
            by_cases c62 : 0 ≤ x6_3
            ·rw [if_pos c62] at H
             have c62b0 : decide (0 ≤ x6_3) = true := decide_eq_true c62
             clear c62
             by_cases c63 : x6_3 < (x3_2.length : Int)
             ·rw [if_pos c63] at H
              have c63b0 : decide (x6_3 < (x3_2.length : Int)) = true := decide_eq_true c63
              clear c63
              by_cases c64 : (rd x3_2 x6_3) = 0
              ·rw [if_pos c64] at H
               have c64b0 : ((rd x3_2 x6_3) == 0) = true := beq_iff_eq.mpr c64
               have c64b1 : ((rd x3_2 x6_3) != 0) = false := bne_eq_false_iff_eq.mpr c64
               clear c64
               by_cases c65 : ((rd_T69 l0_0 x6_3).f1) = (-1)
               ·rw [if_pos c65] at H
                have c65b0 : (((rd_T69 l0_0 x6_3).f1) == (-1)) = true := beq_iff_eq.mpr c65
                have c65b1 : (((rd_T69 l0_0 x6_3).f1) != (-1)) = false := bne_eq_false_iff_eq.mpr c65
                clear c65
                by_cases c66 : (rd x3_2 x6_3) > 0
                ·rw [if_pos c66] at H
                 have c66b0 : decide (0 < (rd x3_2 x6_3)) = true := decide_eq_true c66
                 clear c66
                 replace H := Option.bind_eq_some_iff.mp H
                 obtain ⟨t232, A670, H⟩ := H
                 replace H : (if t232 = true then (if 0 ≤ ((rd_T69 l0_0 x6_3).f1) then (if ((rd_T69 l0_0 x6_3).f1) < (l0_0.length : Int) then (if ((rd_T69 l0_0 ((rd_T69 l0_0 x6_3).f1)).f0) = x6_3 then (calamusref11_Right.l1 k3 x3_2 (wrap64 (x6_3 + 1)) l0_0 a0_1) else (some false)) else (none)) else (none)) else (some false)) = some r := H
                 have A67 := Aside0.mk A670
                 clear A670
                 by_cases c68 : t232 = true
                 ·subst c68
                  have H1 : (if 0 ≤ ((rd_T69 l0_0 x6_3).f1) then (if ((rd_T69 l0_0 x6_3).f1) < (l0_0.length : Int) then (if ((rd_T69 l0_0 ((rd_T69 l0_0 x6_3).f1)).f0) = x6_3 then (calamusref11_Right.l1 k3 x3_2 (wrap64 (x6_3 + 1)) l0_0 a0_1) else (some false)) else (none)) else (none)) = some r := by rw [if_pos rfl] at H; exact H
                  clear H
                  have H := H1
                  clear H1
                  by_cases c69 : 0 ≤ ((rd_T69 l0_0 x6_3).f1)
                  ·rw [if_pos c69] at H
                   have c69b0 : decide (0 ≤ ((rd_T69 l0_0 x6_3).f1)) = true := decide_eq_true c69
                   clear c69
                   by_cases c70 : ((rd_T69 l0_0 x6_3).f1) < (l0_0.length : Int)
                   ·rw [if_pos c70] at H
                    have c70b0 : decide (((rd_T69 l0_0 x6_3).f1) < (l0_0.length : Int)) = true := decide_eq_true c70
                    clear c70
                    by_cases c71 : ((rd_T69 l0_0 ((rd_T69 l0_0 x6_3).f1)).f0) = x6_3
                    ·rw [if_pos c71] at H
                     have c71b0 : (((rd_T69 l0_0 ((rd_T69 l0_0 x6_3).f1)).f0) == x6_3) = true := beq_iff_eq.mpr c71
                     have c71b1 : (((rd_T69 l0_0 ((rd_T69 l0_0 x6_3).f1)).f0) != x6_3) = false := bne_eq_false_iff_eq.mpr c71
                     clear c71
                     have H' := Aside0.mk H
                     clear H
                     obtain ⟨hcz72_0, hcz72_1, hfz72_0, hfz72_1⟩ := bc2_ BK220
                     have p229 : 0 ≤ (x6_3 : Int) := of_decide_eq_true as_
                     have q229 : x6_3 < (l0_0.length : Int) := of_decide_eq_true as_
                     obtain ⟨ad229, e229, hx229_0, hx229_1, hx229_2, hx229_3, hx229_4, hx229_5, hx229_6⟩ := at_T69b HR0_0 HB x6_3 p229 q229
                     cases e229
                     replace p229 := eq_true p229
                     replace q229 := eq_true q229
                     obtain ⟨Ao73, co73, eo73⟩ := Kd.R_slice HO_3.out
                     subst eo73
                     have p230 : 0 ≤ (x6_3 : Int) := of_decide_eq_true as_
                     have q230 : x6_3 < (x3_2.length : Int) := of_decide_eq_true as_
                     obtain ⟨ad230, e230, hx230_0⟩ := Kd.at_int (Kd.R_reads' HO_3.out).2.2 x6_3 p230 q230
                     cases e230
                     replace p230 := eq_true p230
                     replace q230 := eq_true q230
                     have p231 : 0 ≤ (x6_3 : Int) := of_decide_eq_true as_
                     have q231 : x6_3 < (x3_2.length : Int) := of_decide_eq_true as_
                     obtain ⟨ad231, e231, hx231_0⟩ := Kd.at_int (Kd.R_reads' HO_3.out).2.2 x6_3 p231 q231
                     obtain rfl : ad230 = ad231 := (by injection e231)
                     replace p231 := eq_true p231
                     replace q231 := eq_true q231
                     go_wp2_with (first | (go_at_call 82; (with_reducible refine (calamusref11_has.calls _ _ l0_0 a0_1 ((rd_T69 l0_0 x6_3).f1) true _ ?side1 ?side2 A67.out).mono ?_); (case side1 => exact cw_ (Kd.C_below HR0_0.out HB.out)); (case side2 => exact HC0_0.out); rintro e w74 ⟨rfl, hb⟩; replace HO_3 := Aside0.mk (Kd.R_below (rw_ HO_3.out) hb); replace BK220 := bb_ BK220 hb; replace HB := bs_ HB hb; (try clear hb); (try clear hb2); (try clear hk); (try clear hi); obtain ⟨hcz75_0, hcz75_1, hfz75_0, hfz75_1⟩ := bc2_ BK220; have p233 : 0 ≤ (((rd_T69 l0_0 x6_3).f1) : Int) := of_decide_eq_true as_; have q233 : ((rd_T69 l0_0 x6_3).f1) < (l0_0.length : Int) := of_decide_eq_true as_; obtain ⟨ad233, e233, hx233_0, hx233_1, hx233_2, hx233_3, hx233_4, hx233_5, hx233_6⟩ := at_T69 HR0_0.out ((rd_T69 l0_0 x6_3).f1) p233 q233; obtain rfl : ad229 = ad233 := (by injection e233); replace hx233_0 := cb_ HB hx233_0; replace hx233_1 := cb_ HB hx233_1; replace hx233_2 := cb_ HB hx233_2; replace hx233_3 := cb_ HB hx233_3; replace hx233_4 := cb_ HB hx233_4; replace hx233_5 := cb_ HB hx233_5; replace hx233_6 := cb_ HB hx233_6; replace p233 := eq_true p233; replace q233 := eq_true q233))
                     go_roundg k3
                     case measure => have := HJ1.out; have := HK2.out; have := HK3.out; omega
                     case rel => exact ⟨(wrap64 (x6_3 + 1)), es_, H', ⟨by have := HJ1.out; have := HK2.out; have := HK3.out; omega⟩, ⟨rw_ HO_3.out⟩, ⟨bw_ BK220.out⟩, ⟨hb_ HB⟩⟩
                    ·rw [if_neg c71] at H
                     have c71b0 : (((rd_T69 l0_0 ((rd_T69 l0_0 x6_3).f1)).f0) == x6_3) = false := beq_eq_false_iff_ne.mpr c71
                     have c71b1 : (((rd_T69 l0_0 ((rd_T69 l0_0 x6_3).f1)).f0) != x6_3) = true := bne_iff_ne.mpr c71
                     obtain rfl := Option.some.inj H
                     obtain ⟨hcz76_0, hcz76_1, hfz76_0, hfz76_1⟩ := bc2_ BK220
                     have p229 : 0 ≤ (x6_3 : Int) := of_decide_eq_true as_
                     have q229 : x6_3 < (l0_0.length : Int) := of_decide_eq_true as_
                     obtain ⟨ad229, e229, hx229_0, hx229_1, hx229_2, hx229_3, hx229_4, hx229_5, hx229_6⟩ := at_T69b HR0_0 HB x6_3 p229 q229
                     cases e229
                     replace p229 := eq_true p229
                     replace q229 := eq_true q229
                     obtain ⟨Ao77, co77, eo77⟩ := Kd.R_slice HO_3.out
                     subst eo77
                     have p230 : 0 ≤ (x6_3 : Int) := of_decide_eq_true as_
                     have q230 : x6_3 < (x3_2.length : Int) := of_decide_eq_true as_
                     obtain ⟨ad230, e230, hx230_0⟩ := Kd.at_int (Kd.R_reads' HO_3.out).2.2 x6_3 p230 q230
                     cases e230
                     replace p230 := eq_true p230
                     replace q230 := eq_true q230
                     have p231 : 0 ≤ (x6_3 : Int) := of_decide_eq_true as_
                     have q231 : x6_3 < (x3_2.length : Int) := of_decide_eq_true as_
                     obtain ⟨ad231, e231, hx231_0⟩ := Kd.at_int (Kd.R_reads' HO_3.out).2.2 x6_3 p231 q231
                     obtain rfl : ad230 = ad231 := (by injection e231)
                     replace p231 := eq_true p231
                     replace q231 := eq_true q231
                     go_wp2_with (first | (go_at_call 82; (with_reducible refine (calamusref11_has.calls _ _ l0_0 a0_1 ((rd_T69 l0_0 x6_3).f1) true _ ?side1 ?side2 A67.out).mono ?_); (case side1 => exact cw_ (Kd.C_below HR0_0.out HB.out)); (case side2 => exact HC0_0.out); rintro e w78 ⟨rfl, hb⟩; replace HO_3 := Aside0.mk (Kd.R_below (rw_ HO_3.out) hb); replace BK220 := bb_ BK220 hb; replace HB := bs_ HB hb; (try clear hb); (try clear hb2); (try clear hk); (try clear hi); obtain ⟨hcz79_0, hcz79_1, hfz79_0, hfz79_1⟩ := bc2_ BK220; have p233 : 0 ≤ (((rd_T69 l0_0 x6_3).f1) : Int) := of_decide_eq_true as_; have q233 : ((rd_T69 l0_0 x6_3).f1) < (l0_0.length : Int) := of_decide_eq_true as_; obtain ⟨ad233, e233, hx233_0, hx233_1, hx233_2, hx233_3, hx233_4, hx233_5, hx233_6⟩ := at_T69 HR0_0.out ((rd_T69 l0_0 x6_3).f1) p233 q233; obtain rfl : ad229 = ad233 := (by injection e233); replace hx233_0 := cb_ HB hx233_0; replace hx233_1 := cb_ HB hx233_1; replace hx233_2 := cb_ HB hx233_2; replace hx233_3 := cb_ HB hx233_3; replace hx233_4 := cb_ HB hx233_4; replace hx233_5 := cb_ HB hx233_5; replace hx233_6 := cb_ HB hx233_6; replace p233 := eq_true p233; replace q233 := eq_true q233))
                     go_ret
                     exact ⟨er_, hb_ HB⟩
                   ·rw [if_neg c70] at H
                    exact absurd H (by simp)
                  ·rw [if_neg c69] at H
                   exact absurd H (by simp)
                 ·replace c68 := Bool.eq_false_iff.mpr c68
                  subst c68
                  have H1 : (some false) = some r := by rw [if_neg (show ¬ (false = true) by decide)] at H; exact H
                  clear H
                  have H := H1
                  clear H1
                  obtain rfl := Option.some.inj H
                  obtain ⟨hcz80_0, hcz80_1, hfz80_0, hfz80_1⟩ := bc2_ BK220
                  have p229 : 0 ≤ (x6_3 : Int) := of_decide_eq_true as_
                  have q229 : x6_3 < (l0_0.length : Int) := of_decide_eq_true as_
                  obtain ⟨ad229, e229, hx229_0, hx229_1, hx229_2, hx229_3, hx229_4, hx229_5, hx229_6⟩ := at_T69b HR0_0 HB x6_3 p229 q229
                  cases e229
                  replace p229 := eq_true p229
                  replace q229 := eq_true q229
                  obtain ⟨Ao81, co81, eo81⟩ := Kd.R_slice HO_3.out
                  subst eo81
                  have p230 : 0 ≤ (x6_3 : Int) := of_decide_eq_true as_
                  have q230 : x6_3 < (x3_2.length : Int) := of_decide_eq_true as_
                  obtain ⟨ad230, e230, hx230_0⟩ := Kd.at_int (Kd.R_reads' HO_3.out).2.2 x6_3 p230 q230
                  cases e230
                  replace p230 := eq_true p230
                  replace q230 := eq_true q230
                  have p231 : 0 ≤ (x6_3 : Int) := of_decide_eq_true as_
                  have q231 : x6_3 < (x3_2.length : Int) := of_decide_eq_true as_
                  obtain ⟨ad231, e231, hx231_0⟩ := Kd.at_int (Kd.R_reads' HO_3.out).2.2 x6_3 p231 q231
                  obtain rfl : ad230 = ad231 := (by injection e231)
                  replace p231 := eq_true p231
                  replace q231 := eq_true q231
                  go_wp2_with (first | (go_at_call 82; (with_reducible refine (calamusref11_has.calls _ _ l0_0 a0_1 ((rd_T69 l0_0 x6_3).f1) false _ ?side1 ?side2 A67.out).mono ?_); (case side1 => exact cw_ (Kd.C_below HR0_0.out HB.out)); (case side2 => exact HC0_0.out); rintro e w82 ⟨rfl, hb⟩; replace HO_3 := Aside0.mk (Kd.R_below (rw_ HO_3.out) hb); replace BK220 := bb_ BK220 hb; replace HB := bs_ HB hb; (try clear hb); (try clear hb2); (try clear hk); (try clear hi)))
                  go_ret
                  exact ⟨er_, hb_ HB⟩
                ·rw [if_neg c66] at H
                 have c66b0 : decide (0 < (rd x3_2 x6_3)) = false := decide_eq_false c66
                 clear c66
                 have H' := Aside0.mk H
                 clear H
                 obtain ⟨hcz83_0, hcz83_1, hfz83_0, hfz83_1⟩ := bc2_ BK220
                 have p229 : 0 ≤ (x6_3 : Int) := of_decide_eq_true as_
                 have q229 : x6_3 < (l0_0.length : Int) := of_decide_eq_true as_
                 obtain ⟨ad229, e229, hx229_0, hx229_1, hx229_2, hx229_3, hx229_4, hx229_5, hx229_6⟩ := at_T69b HR0_0 HB x6_3 p229 q229
                 cases e229
                 replace p229 := eq_true p229
                 replace q229 := eq_true q229
                 obtain ⟨Ao84, co84, eo84⟩ := Kd.R_slice HO_3.out
                 subst eo84
                 have p230 : 0 ≤ (x6_3 : Int) := of_decide_eq_true as_
                 have q230 : x6_3 < (x3_2.length : Int) := of_decide_eq_true as_
                 obtain ⟨ad230, e230, hx230_0⟩ := Kd.at_int (Kd.R_reads' HO_3.out).2.2 x6_3 p230 q230
                 cases e230
                 replace p230 := eq_true p230
                 replace q230 := eq_true q230
                 have p231 : 0 ≤ (x6_3 : Int) := of_decide_eq_true as_
                 have q231 : x6_3 < (x3_2.length : Int) := of_decide_eq_true as_
                 obtain ⟨ad231, e231, hx231_0⟩ := Kd.at_int (Kd.R_reads' HO_3.out).2.2 x6_3 p231 q231
                 obtain rfl : ad230 = ad231 := (by injection e231)
                 replace p231 := eq_true p231
                 replace q231 := eq_true q231
                 go_wp2
                 go_roundg k3
                 case measure => have := HJ1.out; have := HK2.out; have := HK3.out; omega
                 case rel => exact ⟨(wrap64 (x6_3 + 1)), es_, H', ⟨by have := HJ1.out; have := HK2.out; have := HK3.out; omega⟩, ⟨rw_ HO_3.out⟩, ⟨bw_ BK220.out⟩, ⟨hb_ HB⟩⟩
               ·rw [if_neg c65] at H
                have c65b0 : (((rd_T69 l0_0 x6_3).f1) == (-1)) = false := beq_eq_false_iff_ne.mpr c65
                have c65b1 : (((rd_T69 l0_0 x6_3).f1) != (-1)) = true := bne_iff_ne.mpr c65
                obtain rfl := Option.some.inj H
                obtain ⟨hcz85_0, hcz85_1, hfz85_0, hfz85_1⟩ := bc2_ BK220
                have p229 : 0 ≤ (x6_3 : Int) := of_decide_eq_true as_
                have q229 : x6_3 < (l0_0.length : Int) := of_decide_eq_true as_
                obtain ⟨ad229, e229, hx229_0, hx229_1, hx229_2, hx229_3, hx229_4, hx229_5, hx229_6⟩ := at_T69b HR0_0 HB x6_3 p229 q229
                cases e229
                replace p229 := eq_true p229
                replace q229 := eq_true q229
                obtain ⟨Ao86, co86, eo86⟩ := Kd.R_slice HO_3.out
                subst eo86
                have p230 : 0 ≤ (x6_3 : Int) := of_decide_eq_true as_
                have q230 : x6_3 < (x3_2.length : Int) := of_decide_eq_true as_
                obtain ⟨ad230, e230, hx230_0⟩ := Kd.at_int (Kd.R_reads' HO_3.out).2.2 x6_3 p230 q230
                cases e230
                replace p230 := eq_true p230
                replace q230 := eq_true q230
                go_wp2
                go_ret
                exact ⟨er_, hb_ HB⟩
              ·rw [if_neg c64] at H
               have c64b0 : ((rd x3_2 x6_3) == 0) = false := beq_eq_false_iff_ne.mpr c64
               have c64b1 : ((rd x3_2 x6_3) != 0) = true := bne_iff_ne.mpr c64
               by_cases c87 : (rd x3_2 x6_3) > 0
               ·rw [if_pos c87] at H
                have c87b0 : decide (0 < (rd x3_2 x6_3)) = true := decide_eq_true c87
                clear c87
                replace H := Option.bind_eq_some_iff.mp H
                obtain ⟨t235, A880, H⟩ := H
                replace H : (if t235 = true then (if 0 ≤ ((rd_T69 l0_0 x6_3).f1) then (if ((rd_T69 l0_0 x6_3).f1) < (l0_0.length : Int) then (if ((rd_T69 l0_0 ((rd_T69 l0_0 x6_3).f1)).f0) = x6_3 then (calamusref11_Right.l1 k3 x3_2 (wrap64 (x6_3 + 1)) l0_0 a0_1) else (some false)) else (none)) else (none)) else (some false)) = some r := H
                have A88 := Aside0.mk A880
                clear A880
                by_cases c89 : t235 = true
                ·subst c89
                 have H1 : (if 0 ≤ ((rd_T69 l0_0 x6_3).f1) then (if ((rd_T69 l0_0 x6_3).f1) < (l0_0.length : Int) then (if ((rd_T69 l0_0 ((rd_T69 l0_0 x6_3).f1)).f0) = x6_3 then (calamusref11_Right.l1 k3 x3_2 (wrap64 (x6_3 + 1)) l0_0 a0_1) else (some false)) else (none)) else (none)) = some r := by rw [if_pos rfl] at H; exact H
                 clear H
                 have H := H1
                 clear H1
                 by_cases c90 : 0 ≤ ((rd_T69 l0_0 x6_3).f1)
                 ·rw [if_pos c90] at H
                  have c90b0 : decide (0 ≤ ((rd_T69 l0_0 x6_3).f1)) = true := decide_eq_true c90
                  clear c90
                  by_cases c91 : ((rd_T69 l0_0 x6_3).f1) < (l0_0.length : Int)
                  ·rw [if_pos c91] at H
                   have c91b0 : decide (((rd_T69 l0_0 x6_3).f1) < (l0_0.length : Int)) = true := decide_eq_true c91
                   clear c91
                   by_cases c92 : ((rd_T69 l0_0 ((rd_T69 l0_0 x6_3).f1)).f0) = x6_3
                   ·rw [if_pos c92] at H
                    have c92b0 : (((rd_T69 l0_0 ((rd_T69 l0_0 x6_3).f1)).f0) == x6_3) = true := beq_iff_eq.mpr c92
                    have c92b1 : (((rd_T69 l0_0 ((rd_T69 l0_0 x6_3).f1)).f0) != x6_3) = false := bne_eq_false_iff_eq.mpr c92
                    clear c92
                    have H' := Aside0.mk H
                    clear H
                    obtain ⟨hcz93_0, hcz93_1, hfz93_0, hfz93_1⟩ := bc2_ BK220
                    have p229 : 0 ≤ (x6_3 : Int) := of_decide_eq_true as_
                    have q229 : x6_3 < (l0_0.length : Int) := of_decide_eq_true as_
                    obtain ⟨ad229, e229, hx229_0, hx229_1, hx229_2, hx229_3, hx229_4, hx229_5, hx229_6⟩ := at_T69b HR0_0 HB x6_3 p229 q229
                    cases e229
                    replace p229 := eq_true p229
                    replace q229 := eq_true q229
                    obtain ⟨Ao94, co94, eo94⟩ := Kd.R_slice HO_3.out
                    subst eo94
                    have p230 : 0 ≤ (x6_3 : Int) := of_decide_eq_true as_
                    have q230 : x6_3 < (x3_2.length : Int) := of_decide_eq_true as_
                    obtain ⟨ad230, e230, hx230_0⟩ := Kd.at_int (Kd.R_reads' HO_3.out).2.2 x6_3 p230 q230
                    cases e230
                    replace p230 := eq_true p230
                    replace q230 := eq_true q230
                    have p234 : 0 ≤ (x6_3 : Int) := of_decide_eq_true as_
                    have q234 : x6_3 < (x3_2.length : Int) := of_decide_eq_true as_
                    obtain ⟨ad234, e234, hx234_0⟩ := Kd.at_int (Kd.R_reads' HO_3.out).2.2 x6_3 p234 q234
                    obtain rfl : ad230 = ad234 := (by injection e234)
                    replace p234 := eq_true p234
                    replace q234 := eq_true q234
                    go_wp2_with (first | (go_at_call 82; (with_reducible refine (calamusref11_has.calls _ _ l0_0 a0_1 ((rd_T69 l0_0 x6_3).f1) true _ ?side1 ?side2 A88.out).mono ?_); (case side1 => exact cw_ (Kd.C_below HR0_0.out HB.out)); (case side2 => exact HC0_0.out); rintro e w95 ⟨rfl, hb⟩; replace HO_3 := Aside0.mk (Kd.R_below (rw_ HO_3.out) hb); replace BK220 := bb_ BK220 hb; replace HB := bs_ HB hb; (try clear hb); (try clear hb2); (try clear hk); (try clear hi); obtain ⟨hcz96_0, hcz96_1, hfz96_0, hfz96_1⟩ := bc2_ BK220; have p236 : 0 ≤ (((rd_T69 l0_0 x6_3).f1) : Int) := of_decide_eq_true as_; have q236 : ((rd_T69 l0_0 x6_3).f1) < (l0_0.length : Int) := of_decide_eq_true as_; obtain ⟨ad236, e236, hx236_0, hx236_1, hx236_2, hx236_3, hx236_4, hx236_5, hx236_6⟩ := at_T69 HR0_0.out ((rd_T69 l0_0 x6_3).f1) p236 q236; obtain rfl : ad229 = ad236 := (by injection e236); replace hx236_0 := cb_ HB hx236_0; replace hx236_1 := cb_ HB hx236_1; replace hx236_2 := cb_ HB hx236_2; replace hx236_3 := cb_ HB hx236_3; replace hx236_4 := cb_ HB hx236_4; replace hx236_5 := cb_ HB hx236_5; replace hx236_6 := cb_ HB hx236_6; replace p236 := eq_true p236; replace q236 := eq_true q236))
                    go_roundg k3
                    case measure => have := HJ1.out; have := HK2.out; have := HK3.out; omega
                    case rel => exact ⟨(wrap64 (x6_3 + 1)), es_, H', ⟨by have := HJ1.out; have := HK2.out; have := HK3.out; omega⟩, ⟨rw_ HO_3.out⟩, ⟨bw_ BK220.out⟩, ⟨hb_ HB⟩⟩
                   ·rw [if_neg c92] at H
                    have c92b0 : (((rd_T69 l0_0 ((rd_T69 l0_0 x6_3).f1)).f0) == x6_3) = false := beq_eq_false_iff_ne.mpr c92
                    have c92b1 : (((rd_T69 l0_0 ((rd_T69 l0_0 x6_3).f1)).f0) != x6_3) = true := bne_iff_ne.mpr c92
                    obtain rfl := Option.some.inj H
                    obtain ⟨hcz97_0, hcz97_1, hfz97_0, hfz97_1⟩ := bc2_ BK220
                    have p229 : 0 ≤ (x6_3 : Int) := of_decide_eq_true as_
                    have q229 : x6_3 < (l0_0.length : Int) := of_decide_eq_true as_
                    obtain ⟨ad229, e229, hx229_0, hx229_1, hx229_2, hx229_3, hx229_4, hx229_5, hx229_6⟩ := at_T69b HR0_0 HB x6_3 p229 q229
                    cases e229
                    replace p229 := eq_true p229
                    replace q229 := eq_true q229
                    obtain ⟨Ao98, co98, eo98⟩ := Kd.R_slice HO_3.out
                    subst eo98
                    have p230 : 0 ≤ (x6_3 : Int) := of_decide_eq_true as_
                    have q230 : x6_3 < (x3_2.length : Int) := of_decide_eq_true as_
                    obtain ⟨ad230, e230, hx230_0⟩ := Kd.at_int (Kd.R_reads' HO_3.out).2.2 x6_3 p230 q230
                    cases e230
                    replace p230 := eq_true p230
                    replace q230 := eq_true q230
                    have p234 : 0 ≤ (x6_3 : Int) := of_decide_eq_true as_
                    have q234 : x6_3 < (x3_2.length : Int) := of_decide_eq_true as_
                    obtain ⟨ad234, e234, hx234_0⟩ := Kd.at_int (Kd.R_reads' HO_3.out).2.2 x6_3 p234 q234
                    obtain rfl : ad230 = ad234 := (by injection e234)
                    replace p234 := eq_true p234
                    replace q234 := eq_true q234
                    go_wp2_with (first | (go_at_call 82; (with_reducible refine (calamusref11_has.calls _ _ l0_0 a0_1 ((rd_T69 l0_0 x6_3).f1) true _ ?side1 ?side2 A88.out).mono ?_); (case side1 => exact cw_ (Kd.C_below HR0_0.out HB.out)); (case side2 => exact HC0_0.out); rintro e w99 ⟨rfl, hb⟩; replace HO_3 := Aside0.mk (Kd.R_below (rw_ HO_3.out) hb); replace BK220 := bb_ BK220 hb; replace HB := bs_ HB hb; (try clear hb); (try clear hb2); (try clear hk); (try clear hi); obtain ⟨hcz100_0, hcz100_1, hfz100_0, hfz100_1⟩ := bc2_ BK220; have p236 : 0 ≤ (((rd_T69 l0_0 x6_3).f1) : Int) := of_decide_eq_true as_; have q236 : ((rd_T69 l0_0 x6_3).f1) < (l0_0.length : Int) := of_decide_eq_true as_; obtain ⟨ad236, e236, hx236_0, hx236_1, hx236_2, hx236_3, hx236_4, hx236_5, hx236_6⟩ := at_T69 HR0_0.out ((rd_T69 l0_0 x6_3).f1) p236 q236; obtain rfl : ad229 = ad236 := (by injection e236); replace hx236_0 := cb_ HB hx236_0; replace hx236_1 := cb_ HB hx236_1; replace hx236_2 := cb_ HB hx236_2; replace hx236_3 := cb_ HB hx236_3; replace hx236_4 := cb_ HB hx236_4; replace hx236_5 := cb_ HB hx236_5; replace hx236_6 := cb_ HB hx236_6; replace p236 := eq_true p236; replace q236 := eq_true q236))
                    go_ret
                    exact ⟨er_, hb_ HB⟩
                  ·rw [if_neg c91] at H
                   exact absurd H (by simp)
                 ·rw [if_neg c90] at H
                  exact absurd H (by simp)
                ·replace c89 := Bool.eq_false_iff.mpr c89
                 subst c89
                 have H1 : (some false) = some r := by rw [if_neg (show ¬ (false = true) by decide)] at H; exact H
                 clear H
                 have H := H1
                 clear H1
                 obtain rfl := Option.some.inj H
                 obtain ⟨hcz101_0, hcz101_1, hfz101_0, hfz101_1⟩ := bc2_ BK220
                 have p229 : 0 ≤ (x6_3 : Int) := of_decide_eq_true as_
                 have q229 : x6_3 < (l0_0.length : Int) := of_decide_eq_true as_
                 obtain ⟨ad229, e229, hx229_0, hx229_1, hx229_2, hx229_3, hx229_4, hx229_5, hx229_6⟩ := at_T69b HR0_0 HB x6_3 p229 q229
                 cases e229
                 replace p229 := eq_true p229
                 replace q229 := eq_true q229
                 obtain ⟨Ao102, co102, eo102⟩ := Kd.R_slice HO_3.out
                 subst eo102
                 have p230 : 0 ≤ (x6_3 : Int) := of_decide_eq_true as_
                 have q230 : x6_3 < (x3_2.length : Int) := of_decide_eq_true as_
                 obtain ⟨ad230, e230, hx230_0⟩ := Kd.at_int (Kd.R_reads' HO_3.out).2.2 x6_3 p230 q230
                 cases e230
                 replace p230 := eq_true p230
                 replace q230 := eq_true q230
                 have p234 : 0 ≤ (x6_3 : Int) := of_decide_eq_true as_
                 have q234 : x6_3 < (x3_2.length : Int) := of_decide_eq_true as_
                 obtain ⟨ad234, e234, hx234_0⟩ := Kd.at_int (Kd.R_reads' HO_3.out).2.2 x6_3 p234 q234
                 obtain rfl : ad230 = ad234 := (by injection e234)
                 replace p234 := eq_true p234
                 replace q234 := eq_true q234
                 go_wp2_with (first | (go_at_call 82; (with_reducible refine (calamusref11_has.calls _ _ l0_0 a0_1 ((rd_T69 l0_0 x6_3).f1) false _ ?side1 ?side2 A88.out).mono ?_); (case side1 => exact cw_ (Kd.C_below HR0_0.out HB.out)); (case side2 => exact HC0_0.out); rintro e w103 ⟨rfl, hb⟩; replace HO_3 := Aside0.mk (Kd.R_below (rw_ HO_3.out) hb); replace BK220 := bb_ BK220 hb; replace HB := bs_ HB hb; (try clear hb); (try clear hb2); (try clear hk); (try clear hi)))
                 go_ret
                 exact ⟨er_, hb_ HB⟩
               ·rw [if_neg c87] at H
                have c87b0 : decide (0 < (rd x3_2 x6_3)) = false := decide_eq_false c87
                clear c87
                have H' := Aside0.mk H
                clear H
                obtain ⟨hcz104_0, hcz104_1, hfz104_0, hfz104_1⟩ := bc2_ BK220
                have p229 : 0 ≤ (x6_3 : Int) := of_decide_eq_true as_
                have q229 : x6_3 < (l0_0.length : Int) := of_decide_eq_true as_
                obtain ⟨ad229, e229, hx229_0, hx229_1, hx229_2, hx229_3, hx229_4, hx229_5, hx229_6⟩ := at_T69b HR0_0 HB x6_3 p229 q229
                cases e229
                replace p229 := eq_true p229
                replace q229 := eq_true q229
                obtain ⟨Ao105, co105, eo105⟩ := Kd.R_slice HO_3.out
                subst eo105
                have p230 : 0 ≤ (x6_3 : Int) := of_decide_eq_true as_
                have q230 : x6_3 < (x3_2.length : Int) := of_decide_eq_true as_
                obtain ⟨ad230, e230, hx230_0⟩ := Kd.at_int (Kd.R_reads' HO_3.out).2.2 x6_3 p230 q230
                cases e230
                replace p230 := eq_true p230
                replace q230 := eq_true q230
                have p234 : 0 ≤ (x6_3 : Int) := of_decide_eq_true as_
                have q234 : x6_3 < (x3_2.length : Int) := of_decide_eq_true as_
                obtain ⟨ad234, e234, hx234_0⟩ := Kd.at_int (Kd.R_reads' HO_3.out).2.2 x6_3 p234 q234
                obtain rfl : ad230 = ad234 := (by injection e234)
                replace p234 := eq_true p234
                replace q234 := eq_true q234
                go_wp2
                go_roundg k3
                case measure => have := HJ1.out; have := HK2.out; have := HK3.out; omega
                case rel => exact ⟨(wrap64 (x6_3 + 1)), es_, H', ⟨by have := HJ1.out; have := HK2.out; have := HK3.out; omega⟩, ⟨rw_ HO_3.out⟩, ⟨bw_ BK220.out⟩, ⟨hb_ HB⟩⟩
             ·rw [if_neg c63] at H
              exact absurd H (by simp)
            ·rw [if_neg c62] at H
             exact absurd H (by simp)
           ·rw [if_neg c61] at H
            have c61b0 : decide (x6_3 < (l0_0.length : Int)) = false := decide_eq_false c61
            clear c61
            obtain rfl := Option.some.inj H
            obtain ⟨hcz106_0, hcz106_1, hfz106_0, hfz106_1⟩ := bc2_ BK220
            go_wp2
            go_ret
            exact ⟨er_, hb_ HB⟩
     ·rw [if_neg c13] at H
      exact absurd H (by simp)
    ·rw [if_neg c12] at H
     exact absurd H (by simp)

end Go.Proofs.Ytkiokimpblimcaa.PTreeAdds
