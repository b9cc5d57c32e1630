/- Of the law calamus/calamuslaw32.FallAll: each function as a plain Lean function, with a proof that the call comes to it; the row. By wip/tpl/own_print.py. Conditions: none but the row's own. -/
import Derived.Test.YtjobaaolohemgaaOFallAllx0
import Derived.Test.YtjobaaolohemgaaOFallAllx1
import Derived.Test.YtjobaaolohemgaaOFallAllx2
namespace Go.Proofs.Ytjobaaolohemgaa.PFallAll
open Go.RowKit Go.Proofs.YtjobaaolohemgaaW.PrintWords Go.Proofs.YtjobaaolohemgaaW.PrintLast Go.Proofs.YtjobaaolohemgaaW.PrintMore
attribute [local go_sem] max2_int min2_int max_two min_two max_three min_three max_four min_four   -- for this text's walks alone
set_option linter.unusedVariables false
set_option linter.unusedSimpArgs false

/-! ### calamuslaw32_FallAll: function 13 -/
mutual
def calamuslaw32_FallAll.j0 : Nat → Int → Bool → Int → List Int → Int → List Int → Option (Bool)
 | 0, _, _, _, _, _, _ => none
 | k + 1, x4, x25, x115000, x115001, x116000, x116001 => if x25 = true then (if x4 ≥ 0 then (if x4 ≤ 1073741824 then ((calamuslaw32_lives.f).bind fun t117 => (some t117)) else (some false)) else (some false)) else (calamuslaw32_FallAll.l0 k x4 ([] : List (S58)) 0 x115000 x115001 x116000 x116001)
def calamuslaw32_FallAll.l0 : Nat → Int → List (S58) → Int → Int → List Int → Int → List Int → Option (Bool)
 | 0, _, _, _, _, _, _, _ => none
 | k + 1, x4, x5, x6, x115000, x115001, x116000, x116001 => if x6 < x4 then ((fall_Nth.f x116000 x116001 x6).bind fun bt122 => ((fall_Round.f x116000 x116001 bt122.1 bt122.2).bind fun bt127 => (if (bt122.2.length : Int) = (x115001.length : Int) then (if bt127.1 = bt122.1 then ((calamusref01_Same.f k bt127.2 bt122.2).bind fun t132 => (calamuslaw32_FallAll.j2 k x4 x5 x6 (!t132) x115000 x115001 x116000 x116001 bt122.1 bt122.2)) else (calamuslaw32_FallAll.j2 k x4 x5 x6 true x115000 x115001 x116000 x116001 bt122.1 bt122.2)) else (calamuslaw32_FallAll.j2 k x4 x5 x6 true x115000 x115001 x116000 x116001 bt122.1 bt122.2)))) else (if 0 ≤ (wrap64 (x4 - 1)) then (if (wrap64 (x4 - 1)) < (x5.length : Int) then (if ((rd_T58 x5 (wrap64 (x4 - 1))).f0) = x115000 then ((calamusref01_Same.f k ((rd_T58 x5 (wrap64 (x4 - 1))).f1) x115001).bind fun t120 => (if t120 = true then ((calamuslaw32_lives.f).bind fun t121 => (some t121)) else (some false))) else (some false)) else (none)) else (none))
def calamuslaw32_FallAll.j2 : Nat → Int → List (S58) → Int → Bool → Int → List Int → Int → List Int → Int → List Int → Option (Bool)
 | 0, _, _, _, _, _, _, _, _, _, _ => none
 | k + 1, x4, x5, x6, x67, x115000, x115001, x116000, x116001, x127000, x127001 => if x67 = true then (some false) else (calamuslaw32_FallAll.l1 k x4 x5 x6 0 x115000 x115001 x116000 x116001 x127000 x127001)
def calamuslaw32_FallAll.l1 : Nat → Int → List (S58) → Int → Int → Int → List Int → Int → List Int → Int → List Int → Option (Bool)
 | 0, _, _, _, _, _, _, _, _, _, _ => none
 | k + 1, x4, x5, x6, x9, x115000, x115001, x116000, x116001, x127000, x127001 => if x9 < (x5.length : Int) then (if 0 ≤ x9 then (if ((rd_T58 x5 x9).f0) = x127000 then ((calamusref01_Same.f k ((rd_T58 x5 x9).f1) x127001).bind fun t135 => (if t135 = true then (some false) else (calamuslaw32_FallAll.l1 k x4 x5 x6 (wrap64 (x9 + 1)) x115000 x115001 x116000 x116001 x127000 x127001))) else (calamuslaw32_FallAll.l1 k x4 x5 x6 (wrap64 (x9 + 1)) x115000 x115001 x116000 x116001 x127000 x127001)) else (none)) else (if x5.length < 4398046511104 then (calamuslaw32_FallAll.l0 k x4 (x5 ++ [(⟨x127000, x127001⟩ : S58)]) (wrap64 (x6 + 1)) x115000 x115001 x116000 x116001) else (none))
end
def calamuslaw32_FallAll.f (k : Nat) (a0_0 : Int) (l0_1 : List Int) : Option (Bool) := (fall_Count.f a0_0 l0_1).bind fun t116 => (if t116 < 1 then (calamuslaw32_FallAll.j0 k t116 true a0_0 l0_1 a0_0 l0_1) else (if t116 > 300 then (calamuslaw32_FallAll.j0 k t116 true a0_0 l0_1 a0_0 l0_1) else (calamuslaw32_FallAll.j0 k t116 (decide ((l0_1.length : Int) > 30)) a0_0 l0_1 a0_0 l0_1)))
theorem calamuslaw32_FallAll.mono_l : ∀ k, (∀ y0 y1 y2 y3 y4 y5, LeO (calamuslaw32_FallAll.j0 k y0 y1 y2 y3 y4 y5) (calamuslaw32_FallAll.j0 (k + 1) y0 y1 y2 y3 y4 y5)) ∧ (∀ y0 y1 y2 y3 y4 y5 y6, LeO (calamuslaw32_FallAll.l0 k y0 y1 y2 y3 y4 y5 y6) (calamuslaw32_FallAll.l0 (k + 1) y0 y1 y2 y3 y4 y5 y6)) ∧ (∀ y0 y1 y2 y3 y4 y5 y6 y7 y8 y9, LeO (calamuslaw32_FallAll.j2 k y0 y1 y2 y3 y4 y5 y6 y7 y8 y9) (calamuslaw32_FallAll.j2 (k + 1) y0 y1 y2 y3 y4 y5 y6 y7 y8 y9)) ∧ (∀ y0 y1 y2 y3 y4 y5 y6 y7 y8 y9, LeO (calamuslaw32_FallAll.l1 k y0 y1 y2 y3 y4 y5 y6 y7 y8 y9) (calamuslaw32_FallAll.l1 (k + 1) y0 y1 y2 y3 y4 y5 y6 y7 y8 y9))
 | 0 => ⟨fun _ _ _ _ _ _ r h => by simp [calamuslaw32_FallAll.j0] at h, fun _ _ _ _ _ _ _ r h => by simp [calamuslaw32_FallAll.l0] at h, fun _ _ _ _ _ _ _ _ _ _ r h => by simp [calamuslaw32_FallAll.j2] at h, fun _ _ _ _ _ _ _ _ _ _ r h => by simp [calamuslaw32_FallAll.l1] at h⟩
 | k + 1 => by
  obtain ⟨ih0, ih1, ih2, ih3⟩ := calamuslaw32_FallAll.mono_l k
  refine ⟨?_, ?_, ?_, ?_⟩
  ·intro y0 y1 y2 y3 y4 y5
   unfold calamuslaw32_FallAll.j0
   repeat' first
   | (with_reducible exact ih0 _ _ _ _ _ _)
   | (with_reducible exact ih1 _ _ _ _ _ _ _)
   | (with_reducible exact ih2 _ _ _ _ _ _ _ _ _ _)
   | (with_reducible exact ih3 _ _ _ _ _ _ _ _ _ _)
   | (with_reducible exact calamusref01_Same.mono _ _ _)
   | (with_reducible exact LeO.refl _)
   | (with_reducible exact LeO.none _)
   | (with_reducible refine LeO.ite ?_ ?_)
   | (with_reducible refine LeO.bind ?_ (fun _ => ?_))
   | exact ih0 _ _ _ _ _ _
   | exact ih1 _ _ _ _ _ _ _
   | exact ih2 _ _ _ _ _ _ _ _ _ _
   | exact ih3 _ _ _ _ _ _ _ _ _ _
   | exact calamusref01_Same.mono _ _ _
   | exact LeO.none _
   | refine LeO.ite ?_ ?_
   | refine LeO.bind ?_ (fun _ => ?_)
  ·intro y0 y1 y2 y3 y4 y5 y6
   unfold calamuslaw32_FallAll.l0
   repeat' first
   | (with_reducible exact ih0 _ _ _ _ _ _)
   | (with_reducible exact ih1 _ _ _ _ _ _ _)
   | (with_reducible exact ih2 _ _ _ _ _ _ _ _ _ _)
   | (with_reducible exact ih3 _ _ _ _ _ _ _ _ _ _)
   | (with_reducible exact calamusref01_Same.mono _ _ _)
   | (with_reducible exact LeO.refl _)
   | (with_reducible exact LeO.none _)
   | (with_reducible refine LeO.ite ?_ ?_)
   | (with_reducible refine LeO.bind ?_ (fun _ => ?_))
   | exact ih0 _ _ _ _ _ _
   | exact ih1 _ _ _ _ _ _ _
   | exact ih2 _ _ _ _ _ _ _ _ _ _
   | exact ih3 _ _ _ _ _ _ _ _ _ _
   | exact calamusref01_Same.mono _ _ _
   | exact LeO.none _
   | refine LeO.ite ?_ ?_
   | refine LeO.bind ?_ (fun _ => ?_)
  ·intro y0 y1 y2 y3 y4 y5 y6 y7 y8 y9
   unfold calamuslaw32_FallAll.j2
   repeat' first
   | (with_reducible exact ih0 _ _ _ _ _ _)
   | (with_reducible exact ih1 _ _ _ _ _ _ _)
   | (with_reducible exact ih2 _ _ _ _ _ _ _ _ _ _)
   | (with_reducible exact ih3 _ _ _ _ _ _ _ _ _ _)
   | (with_reducible exact calamusref01_Same.mono _ _ _)
   | (with_reducible exact LeO.refl _)
   | (with_reducible exact LeO.none _)
   | (with_reducible refine LeO.ite ?_ ?_)
   | (with_reducible refine LeO.bind ?_ (fun _ => ?_))
   | exact ih0 _ _ _ _ _ _
   | exact ih1 _ _ _ _ _ _ _
   | exact ih2 _ _ _ _ _ _ _ _ _ _
   | exact ih3 _ _ _ _ _ _ _ _ _ _
   | exact calamusref01_Same.mono _ _ _
   | exact LeO.none _
   | refine LeO.ite ?_ ?_
   | refine LeO.bind ?_ (fun _ => ?_)
  ·intro y0 y1 y2 y3 y4 y5 y6 y7 y8 y9
   unfold calamuslaw32_FallAll.l1
   repeat' first
   | (with_reducible exact ih0 _ _ _ _ _ _)
   | (with_reducible exact ih1 _ _ _ _ _ _ _)
   | (with_reducible exact ih2 _ _ _ _ _ _ _ _ _ _)
   | (with_reducible exact ih3 _ _ _ _ _ _ _ _ _ _)
   | (with_reducible exact calamusref01_Same.mono _ _ _)
   | (with_reducible exact LeO.refl _)
   | (with_reducible exact LeO.none _)
   | (with_reducible refine LeO.ite ?_ ?_)
   | (with_reducible refine LeO.bind ?_ (fun _ => ?_))
   | exact ih0 _ _ _ _ _ _
   | exact ih1 _ _ _ _ _ _ _
   | exact ih2 _ _ _ _ _ _ _ _ _ _
   | exact ih3 _ _ _ _ _ _ _ _ _ _
   | exact calamusref01_Same.mono _ _ _
   | exact LeO.none _
   | refine LeO.ite ?_ ?_
   | refine LeO.bind ?_ (fun _ => ?_)
theorem calamuslaw32_FallAll.mono : ∀ a0 a1 k, LeO (calamuslaw32_FallAll.f k a0 a1) (calamuslaw32_FallAll.f (k + 1) a0 a1) := by
 intro a0 a1 k
 obtain ⟨ih0, ih1, ih2, ih3⟩ := calamuslaw32_FallAll.mono_l k
 unfold calamuslaw32_FallAll.f
 repeat' first
   | (with_reducible exact ih0 _ _ _ _ _ _)
   | (with_reducible exact ih1 _ _ _ _ _ _ _)
   | (with_reducible exact ih2 _ _ _ _ _ _ _ _ _ _)
   | (with_reducible exact ih3 _ _ _ _ _ _ _ _ _ _)
   | (with_reducible exact calamusref01_Same.mono _ _ _)
   | (with_reducible exact LeO.refl _)
   | (with_reducible exact LeO.none _)
   | (with_reducible refine LeO.ite ?_ ?_)
   | (with_reducible refine LeO.bind ?_ (fun _ => ?_))
   | exact ih0 _ _ _ _ _ _
   | exact ih1 _ _ _ _ _ _ _
   | exact ih2 _ _ _ _ _ _ _ _ _ _
   | exact ih3 _ _ _ _ _ _ _ _ _ _
   | exact calamusref01_Same.mono _ _ _
   | exact LeO.none _
   | refine LeO.ite ?_ ?_
   | refine LeO.bind ?_ (fun _ => ?_)
set_option maxHeartbeats 8000000 in
set_option maxRecDepth 100000 in
theorem calamuslaw32_FallAll.calls (k : Nat) (a0_0 : Int) (A0_1 : Option Addr) (c0_1 : Nat) (l0_1 : List Int) (r : Bool) (w : World) (hr0_1 : Kd.C (Kd.int .i64) w A0_1 l0_1.length l0_1) (hc0_1 : l0_1.length ≤ c0_1) (h : calamuslaw32_FallAll.f k a0_0 l0_1 = some r) (hr_ : r = true := by rfl) :
  Calls Try.prog 13 #[.agg #[.int .i64 a0_0, .slice A0_1 l0_1.length c0_1]] w fun e w' => e = .returned (.bool r) ∧ Below w.heap.size w w' := by
 have hu57 := Try.underlying57
 have hu58 := Try.underlying58
 have HR0_1 := Aside0.mk hr0_1
 have HC0_1 := Aside0.mk hc0_1
 clear hr0_1 hc0_1
 have HB := Aside0.mk (Below.refl w.heap.size w)
 have H : ((fall_Count.f a0_0 l0_1).bind fun t116 => (if t116 < 1 then (calamuslaw32_FallAll.j0 k t116 true a0_0 l0_1 a0_0 l0_1) else (if t116 > 300 then (calamuslaw32_FallAll.j0 k t116 true a0_0 l0_1 a0_0 l0_1) else (calamuslaw32_FallAll.j0 k t116 (decide ((l0_1.length : Int) > 30)) a0_0 l0_1 a0_0 l0_1)))) = some r := h
 clear h
 replace H := Option.bind_eq_some_iff.mp H
 obtain ⟨t116, A20, H⟩ := H
 replace H : (if t116 < 1 then (calamuslaw32_FallAll.j0 k t116 true a0_0 l0_1 a0_0 l0_1) else (if t116 > 300 then (calamuslaw32_FallAll.j0 k t116 true a0_0 l0_1 a0_0 l0_1) else (calamuslaw32_FallAll.j0 k t116 (decide ((l0_1.length : Int) > 30)) a0_0 l0_1 a0_0 l0_1))) = some r := H
 have A2 := Aside0.mk A20
 clear A20
 have HC3 := Aside0.mk H
 clear H
 go_enter Try.func13, Try.ntmps13
 go_upto_region 3 with (first | ((with_reducible refine gate_dst (N := 1) rfl ?_); (try (refine gate_guard (by rfl) ?_; dsimp only)); refine be_ (N := 1) (cs := #[.int .i64 a0_0, .slice A0_1 l0_1.length c0_1]) (t := 57) (h := ?_); intro gb114 hg w4 hbox hb; have BK114 := Aside0.mk (hbox); have GW114 := gw_ HB hg; have GE114 := gw_ HB hg; replace HB := bs_ HB hb; clear hb hbox hg; obtain ⟨hcz5_0, hcz5_1, hfz5_0, hfz5_1⟩ := bc2_ BK114) | ((with_reducible refine gate_dst (N := 3) rfl ?_); (try (refine gate_guard (by rfl) ?_; dsimp only)); refine be_ (N := 3) (cs := #[.int .i64 0, .slice none 0 0]) (t := 58) (h := ?_); intro gb115 hg w6 hbox hb; have BK115 := Aside0.mk (hbox); have GW115 := gw_ HB hg; have GE115 := gw_ HB hg; have NB114_115 := ne_ BK114 hg; have NB115_114 := en_ BK114 hg; replace BK114 := bb_ BK114 hb; replace HB := bs_ HB hb; clear hb hbox hg; have hnb7 := NB115_114.out; have hnc7 := NB114_115.out; obtain ⟨hcz8_0, hcz8_1, hfz8_0, hfz8_1⟩ := bc2_ BK115) | (go_at_call 54; (with_reducible refine (fall_Count.calls a0_0 _ _ l0_1 t116 _ ?side1 ?side2 A2.out).mono ?_); (case side1 => exact Kd.C_below HR0_1.out (hb_ HB)); (case side2 => exact HC0_1.out); rintro e w9 ⟨rfl, hb⟩; replace BK114 := Aside0.mk (blk_below (g := gb114) (o := .cells #[.int .i64 a0_0, .slice A0_1 l0_1.length c0_1] 57 (0, 0)) (bp_ BK114.out) hb); replace BK115 := Aside0.mk (blk_below (g := gb115) (o := .cells #[.int .i64 a0_0, .slice A0_1 l0_1.length c0_1] 58 (0, 0)) (bp_ BK115.out) hb); replace HB := bs_ HB hb; (try clear hb); (try clear hb2); (try clear hk); (try clear hi)))
 repeat (go_quiet (first | ((with_reducible refine gate_dst (N := 1) rfl ?_); (try (refine gate_guard (by rfl) ?_; dsimp only)); refine be_ (N := 1) (cs := #[.int .i64 a0_0, .slice A0_1 l0_1.length c0_1]) (t := 57) (h := ?_); intro gb114 hg w4 hbox hb; have BK114 := Aside0.mk (hbox); have GW114 := gw_ HB hg; have GE114 := gw_ HB hg; replace HB := bs_ HB hb; clear hb hbox hg; obtain ⟨hcz5_0, hcz5_1, hfz5_0, hfz5_1⟩ := bc2_ BK114) | ((with_reducible refine gate_dst (N := 3) rfl ?_); (try (refine gate_guard (by rfl) ?_; dsimp only)); refine be_ (N := 3) (cs := #[.int .i64 0, .slice none 0 0]) (t := 58) (h := ?_); intro gb115 hg w6 hbox hb; have BK115 := Aside0.mk (hbox); have GW115 := gw_ HB hg; have GE115 := gw_ HB hg; have NB114_115 := ne_ BK114 hg; have NB115_114 := en_ BK114 hg; replace BK114 := bb_ BK114 hb; replace HB := bs_ HB hb; clear hb hbox hg; have hnb7 := NB115_114.out; have hnc7 := NB114_115.out; obtain ⟨hcz8_0, hcz8_1, hfz8_0, hfz8_1⟩ := bc2_ BK115) | (go_at_call 54; (with_reducible refine (fall_Count.calls a0_0 _ _ l0_1 t116 _ ?side1 ?side2 A2.out).mono ?_); (case side1 => exact Kd.C_below HR0_1.out (hb_ HB)); (case side2 => exact HC0_1.out); rintro e w9 ⟨rfl, hb⟩; replace BK114 := Aside0.mk (blk_below (g := gb114) (o := .cells #[.int .i64 a0_0, .slice A0_1 l0_1.length c0_1] 57 (0, 0)) (bp_ BK114.out) hb); replace BK115 := Aside0.mk (blk_below (g := gb115) (o := .cells #[.int .i64 a0_0, .slice A0_1 l0_1.length c0_1] 58 (0, 0)) (bp_ BK115.out) hb); replace HB := bs_ HB hb; (try clear hb); (try clear hb2); (try clear hk); (try clear hi))); go_upto_region 3 with (first | ((with_reducible refine gate_dst (N := 1) rfl ?_); (try (refine gate_guard (by rfl) ?_; dsimp only)); refine be_ (N := 1) (cs := #[.int .i64 a0_0, .slice A0_1 l0_1.length c0_1]) (t := 57) (h := ?_); intro gb114 hg w4 hbox hb; have BK114 := Aside0.mk (hbox); have GW114 := gw_ HB hg; have GE114 := gw_ HB hg; replace HB := bs_ HB hb; clear hb hbox hg; obtain ⟨hcz5_0, hcz5_1, hfz5_0, hfz5_1⟩ := bc2_ BK114) | ((with_reducible refine gate_dst (N := 3) rfl ?_); (try (refine gate_guard (by rfl) ?_; dsimp only)); refine be_ (N := 3) (cs := #[.int .i64 0, .slice none 0 0]) (t := 58) (h := ?_); intro gb115 hg w6 hbox hb; have BK115 := Aside0.mk (hbox); have GW115 := gw_ HB hg; have GE115 := gw_ HB hg; have NB114_115 := ne_ BK114 hg; have NB115_114 := en_ BK114 hg; replace BK114 := bb_ BK114 hb; replace HB := bs_ HB hb; clear hb hbox hg; have hnb7 := NB115_114.out; have hnc7 := NB114_115.out; obtain ⟨hcz8_0, hcz8_1, hfz8_0, hfz8_1⟩ := bc2_ BK115) | (go_at_call 54; (with_reducible refine (fall_Count.calls a0_0 _ _ l0_1 t116 _ ?side1 ?side2 A2.out).mono ?_); (case side1 => exact Kd.C_below HR0_1.out (hb_ HB)); (case side2 => exact HC0_1.out); rintro e w9 ⟨rfl, hb⟩; replace BK114 := Aside0.mk (blk_below (g := gb114) (o := .cells #[.int .i64 a0_0, .slice A0_1 l0_1.length c0_1] 57 (0, 0)) (bp_ BK114.out) hb); replace BK115 := Aside0.mk (blk_below (g := gb115) (o := .cells #[.int .i64 a0_0, .slice A0_1 l0_1.length c0_1] 58 (0, 0)) (bp_ BK115.out) hb); replace HB := bs_ HB hb; (try clear hb); (try clear hb2); (try clear hk); (try clear hi))))
 (try simp only [Act.put, List.setIfInBounds_toArray, List.set_cons_zero, List.set_cons_succ])
 go_cut [25] (fun v25 wc => ∃ (kq : Nat) (x25_2 : Bool), v25 = .bool x25_2 ∧ Aside0 (calamuslaw32_FallAll.j0 kq t116 x25_2 a0_0 l0_1 a0_0 l0_1 = some r) ∧ Aside0 (kq ≤ k) ∧ Aside0 (wc.heap[gb114]? = some (.cells #[.int .i64 a0_0, (.slice A0_1 l0_1.length c0_1)] 57 (0, 0))) ∧ Aside0 (wc.heap[gb115]? = some (.cells #[.int .i64 a0_0, (.slice A0_1 l0_1.length c0_1)] 58 (0, 0))) ∧ Aside0 (Below w.heap.size w wc))
 case first =>
  have H := HC3.out
  clear HC3
  by_cases c10 : t116 < 1
  ·rw [if_pos c10] at H
   have c10b0 : decide (t116 < 1) = true := decide_eq_true c10
   clear c10
   (first | rw [c10b0] | (simp only [i64_w, i32_w]; rw [c10b0]) | skip)
   have H' := Aside0.mk H
   clear H
   go_wp2
   repeat (go_quiet (fail); try go_wp2)
   go_meet
   case rel => exact ⟨_, (true), es_, H', ⟨by first | omega | exact Nat.le_refl _⟩, ⟨bw_ BK114.out⟩, ⟨bw_ BK115.out⟩, ⟨hb_ HB⟩⟩
  ·rw [if_neg c10] at H
   have c10b0 : decide (t116 < 1) = false := decide_eq_false c10
   clear c10
   (first | rw [c10b0] | (simp only [i64_w, i32_w]; rw [c10b0]) | skip)
   by_cases c11 : t116 > 300
   ·rw [if_pos c11] at H
    have c11b0 : decide (300 < t116) = true := decide_eq_true c11
    clear c11
    have H' := Aside0.mk H
    clear H
    go_wp2
    repeat (go_quiet (fail); try go_wp2)
    go_meet
    case rel => exact ⟨_, (true), es_, H', ⟨by first | omega | exact Nat.le_refl _⟩, ⟨bw_ BK114.out⟩, ⟨bw_ BK115.out⟩, ⟨hb_ HB⟩⟩
   ·rw [if_neg c11] at H
    have c11b0 : decide (300 < t116) = false := decide_eq_false c11
    clear c11
    have H' := Aside0.mk H
    clear H
    have hnb12 := NB114_115.out
    have hnc12 := NB115_114.out
    obtain ⟨hcz13_0, hcz13_1, hfz13_0, hfz13_1⟩ := bc2_ BK114
    go_wp2
    repeat (go_quiet (fail); try go_wp2)
    go_meet
    case rel => exact ⟨_, (decide ((l0_1.length : Int) > 30)), es_, H', ⟨by first | omega | exact Nat.le_refl _⟩, ⟨bw_ BK114.out⟩, ⟨bw_ BK115.out⟩, ⟨hb_ HB⟩⟩
 case rest =>
  clear HC3
  try clear hcz5_0
  try clear hcz5_1
  try clear hcz8_0
  try clear hcz8_1
  try clear hfz5_0
  try clear hfz5_1
  try clear hfz8_0
  try clear hfz8_1
  obtain ⟨kq, x25_2, rfl, HA, HJ2, BK114, BK115, HB⟩ := hcut
  cases kq with
  | zero => exact absurd HA.out (by simp [calamuslaw32_FallAll.j0])
  | succ kj2 =>
   have H := HA.out
   clear HA
   simp only [calamuslaw32_FallAll.j0] at H
   by_cases c14 : x25_2 = true
   ·subst c14
    have H1 : (if t116 ≥ 0 then (if t116 ≤ 1073741824 then ((calamuslaw32_lives.f).bind fun t117 => (some t117)) else (some false)) else (some false)) = some r := by rw [if_pos rfl] at H; exact H
    clear H
    have H := H1
    clear H1
    by_cases c15 : t116 ≥ 0
    ·rw [if_pos c15] at H
     have c15b0 : decide (0 ≤ t116) = true := decide_eq_true c15
     clear c15
     by_cases c16 : t116 ≤ 1073741824
     ·rw [if_pos c16] at H
      have c16b0 : decide (t116 ≤ 1073741824) = true := decide_eq_true c16
      clear c16
      replace H := Option.bind_eq_some_iff.mp H
      obtain ⟨t117, A170, H⟩ := H
      replace H : (some t117) = some r := H
      have A17 := Aside0.mk A170
      clear A170
      obtain rfl := Option.some.inj H
      go_wp2_with (first | (go_at_call 50; (with_reducible refine (calamuslaw32_lives.calls  t117 _ A17.out).mono ?_); rintro e w18 ⟨rfl, hb⟩; replace BK114 := bb_ BK114 hb; replace BK115 := bb_ BK115 hb; replace HB := bs_ HB hb; (try clear hb); (try clear hb2); (try clear hk); (try clear hi)))
      repeat (go_quiet (first | (go_at_call 50; (with_reducible refine (calamuslaw32_lives.calls  t117 _ A17.out).mono ?_); rintro e w18 ⟨rfl, hb⟩; replace BK114 := bb_ BK114 hb; replace BK115 := bb_ BK115 hb; replace HB := bs_ HB hb; (try clear hb); (try clear hb2); (try clear hk); (try clear hi))); try go_wp2_with (first | (go_at_call 50; (with_reducible refine (calamuslaw32_lives.calls  t117 _ A17.out).mono ?_); rintro e w18 ⟨rfl, hb⟩; replace BK114 := bb_ BK114 hb; replace BK115 := bb_ BK115 hb; replace HB := bs_ HB hb; (try clear hb); (try clear hb2); (try clear hk); (try clear hi))))
      go_ret
      exact ⟨er_, hb_ HB⟩
     ·rw [if_neg c16] at H
      have c16b0 : decide (t116 ≤ 1073741824) = false := decide_eq_false c16
      clear c16
      exact nf_ H hr_
    ·rw [if_neg c15] at H
     have c15b0 : decide (0 ≤ t116) = false := decide_eq_false c15
     clear c15
     exact nf_ H hr_
   ·replace c14 := Bool.eq_false_iff.mpr c14
    subst c14
    have H1 : (calamuslaw32_FallAll.l0 kj2 t116 ([] : List (S58)) 0 a0_0 l0_1 a0_0 l0_1) = some r := by rw [if_neg (show ¬ (false = true) by decide)] at H; exact H
    clear H
    have H := H1
    clear H1
    have H' := Aside0.mk H
    clear H
    go_wp2
    repeat (go_quiet (fail); try go_wp2)
    go_loopg [5, 6] kj2 (fun kq v5 v6 w' => ∃ (x5_2 : List (S58)) (x6_2 : Int), v6 = .int .i64 x6_2 ∧ Aside0 (calamuslaw32_FallAll.l0 kq t116 x5_2 x6_2 a0_0 l0_1 a0_0 l0_1 = some r) ∧ Aside0 (kq ≤ kj2) ∧ Aside0 (Kd.S k58 58 w' w.heap.size (fun k_ => k_ ≠ gb115) v5 x5_2) ∧ Aside0 (w'.heap[gb114]? = some (.cells #[.int .i64 a0_0, (.slice A0_1 l0_1.length c0_1)] 57 (0, 0))) ∧ Aside0 (w'.heap[gb115]? = some (.cells #[.int .i64 a0_0, (.slice A0_1 l0_1.length c0_1)] 58 (0, 0))) ∧ Aside0 (Below w.heap.size w w'))
    case atStart => exact ⟨(([] : List (S58))), (0), es_, H', ⟨Nat.le_refl _⟩, ⟨by first | exact Kd.S_nil _ _ _ _ _ | exact Kd.N_nil _ _ _ _ _ | exact Kd.V_nil _ _ _ _ _ | exact Kd.Q_nil _ _ _ _ _ | exact Kd.R_nil _ _ _ _ _⟩, ⟨bw_ BK114.out⟩, ⟨bw_ BK115.out⟩, ⟨hb_ HB⟩⟩
    case round =>
     clear H'
     try clear c14
     try clear hcz5_0
     try clear hcz5_1
     try clear hcz8_0
     try clear hcz8_1
     try clear hfz5_0
     try clear hfz5_1
     try clear hfz8_0
     try clear hfz8_1
     obtain ⟨x5_2, x6_2, rfl, HA, HK2, HO_5, BK114, BK115, HB⟩ := hrel
     cases gk with
     | zero => exact absurd HA.out (by simp [calamuslaw32_FallAll.l0])
     | succ k2 =>
      have H := HA.out
      clear HA
      simp only [calamuslaw32_FallAll.l0] at H
      by_cases c19 : x6_2 < t116
      ·rw [if_pos c19] at H
       have c19b0 : decide (x6_2 < t116) = true := decide_eq_true c19
       clear c19
       replace H := Option.bind_eq_some_iff.mp H
       obtain ⟨⟨t122, t123⟩, A200, H⟩ := H
       replace H : ((fall_Round.f a0_0 l0_1 t122 t123).bind fun bt127 => (if (t123.length : Int) = (l0_1.length : Int) then (if bt127.1 = t122 then ((calamusref01_Same.f k2 bt127.2 t123).bind fun t132 => (calamuslaw32_FallAll.j2 k2 t116 x5_2 x6_2 (!t132) a0_0 l0_1 a0_0 l0_1 t122 t123)) else (calamuslaw32_FallAll.j2 k2 t116 x5_2 x6_2 true a0_0 l0_1 a0_0 l0_1 t122 t123)) else (calamuslaw32_FallAll.j2 k2 t116 x5_2 x6_2 true a0_0 l0_1 a0_0 l0_1 t122 t123))) = some r := H
       have A20 := Aside0.mk A200
       clear A200
       replace H := Option.bind_eq_some_iff.mp H
       obtain ⟨⟨t127, t128⟩, A210, H⟩ := H
       replace H : (if (t123.length : Int) = (l0_1.length : Int) then (if t127 = t122 then ((calamusref01_Same.f k2 t128 t123).bind fun t132 => (calamuslaw32_FallAll.j2 k2 t116 x5_2 x6_2 (!t132) a0_0 l0_1 a0_0 l0_1 t122 t123)) else (calamuslaw32_FallAll.j2 k2 t116 x5_2 x6_2 true a0_0 l0_1 a0_0 l0_1 t122 t123)) else (calamuslaw32_FallAll.j2 k2 t116 x5_2 x6_2 true a0_0 l0_1 a0_0 l0_1 t122 t123)) = some r := H
       have A21 := Aside0.mk A210
       clear A210
       have HC22 := Aside0.mk H
       clear H
       have hnb23 := NB115_114.out
       have hnc23 := NB114_115.out
       obtain ⟨hcz24_0, hcz24_1, hfz24_0, hfz24_1⟩ := bc2_ BK115
       go_upto_region 11 with (first | (go_at_call 56; (with_reducible refine (fall_Nth.calls a0_0 _ _ l0_1 x6_2 t122 t123 _ ?side1 ?side2 A20.out).mono ?_); (case side1 => exact cw_ (Kd.C_below HR0_1.out HB.out)); (case side2 => exact HC0_1.out); rintro e w25 ⟨v124, rfl, ho0, hb⟩; have HO125 := Aside0.mk (Kd.R_lower ho0 (below_size (hb_ HB))); replace HO_5 := Aside0.mk (Kd.S_elder' (by (with_reducible repeat (first | apply Kd.S_alloc | apply Kd.S_drewN | apply Kd.S_drew)); exact HO_5.out) (Kd.R_base ho0) hb); replace BK114 := bb_ BK114 hb; replace BK115 := bb_ BK115 hb; replace HB := bs_ HB hb; (try clear hb); (try clear hb2); (try clear hk); (try clear hi); (try clear ho0)) | ((with_reducible refine gate_dst (N := 7) rfl ?_); (try (refine gate_guard (by rfl) ?_; dsimp only)); refine be_ (N := 7) (cs := #[.int .i64 0, .slice none 0 0]) (t := 58) (h := ?_); intro gb126 hg w26 hbox hb; have BK126 := Aside0.mk (hbox); have GW126 := gw_ HB hg; have GE126 := gw_ HB hg; have NB114_126 := ne_ BK114 hg; have NB126_114 := en_ BK114 hg; have NB115_126 := ne_ BK115 hg; have NB126_115 := en_ BK115 hg; replace HO_5 := Aside0.mk (Kd.S_below (Kd.S_elderB (by (with_reducible repeat (first | apply Kd.S_alloc | apply Kd.S_drewN | apply Kd.S_drew)); exact HO_5.out) gb126 (Nat.le_of_eq hg.symm)) hb); replace HO125 := Aside0.mk (Kd.R_below (rw_ HO125.out) hb); replace BK114 := bb_ BK114 hb; replace BK115 := bb_ BK115 hb; replace HB := bs_ HB hb; clear hb hbox hg; have hnb27 := NB126_114.out; have hnc27 := NB114_126.out; have hnb28 := NB126_115.out; have hnc28 := NB115_126.out; obtain ⟨hcz29_0, hcz29_1, hfz29_0, hfz29_1⟩ := bc2_ BK126; obtain ⟨Ao30, co30, eo30⟩ := Kd.R_slice HO125.out; subst eo30; obtain ⟨hcz31_0, hcz31_1, hfz31_0, hfz31_1⟩ := bc2_ BK115) | (go_at_call 52; (with_reducible refine (fall_Round.calls a0_0 _ _ l0_1 t122 _ _ t123 t127 t128 _ ?side1 ?side2 ?side3 ?side4 A21.out).mono ?_); (case side1 => exact Kd.C_below HR0_1.out (hb_ HB)); (case side2 => exact HC0_1.out); (case side3 => refine (Kd.R_reads' (e := 3) (base := w.heap.size) (ok := fun k_ => True) (n := t123.length) (c := co30) ?_).2.2; exact (by (with_reducible repeat (first | apply Kd.R_alloc | apply Kd.R_drewN | apply Kd.R_drew)); exact (Kd.R_mono (rf_ (Kd.R_types HO125.out BK126.out (by decide)) (fun _ hk => hk.2)) (fun _ h_ => h_.1)))); (case side4 => exact (Kd.R_reads' HO125.out).2.1); rintro e w32 ⟨v129, rfl, ho0, hb⟩; have HO130 := Aside0.mk (Kd.R_lower (Kd.R_new' ho0 (Kd.R_lt (by (with_reducible repeat (first | apply Kd.R_alloc | apply Kd.R_drewN | apply Kd.R_drew)); exact (Kd.R_mono (rf_ (Kd.R_types HO125.out BK126.out (by decide)) (fun _ hk => hk.2)) (fun _ h_ => h_.1))))) (below_size (hb_ HB))); replace HO_5 := Aside0.mk (Kd.S_elder' (by (with_reducible repeat (first | apply Kd.S_alloc | apply Kd.S_drewN | apply Kd.S_drew)); exact (Kd.S_mono (Kd.S_far (p := ⟨gb126, 1, none⟩) (Kd.S_far (p := ⟨gb126, 0, none⟩) (Kd.S_mono HO_5.out (fun k_ hk => (⟨hk, hk.2⟩ : _ ∧ k_ ≠ gb126))) (fun _ hk => hk.2) (.int .i64 t122)) (fun _ hk => hk.2) (.slice Ao30 t123.length co30)) (fun _ h_ => h_.1))) (Kd.R_base ho0) hb); replace HO125 := Aside0.mk (Kd.R_elder' (by (with_reducible repeat (first | apply Kd.R_alloc | apply Kd.R_drewN | apply Kd.R_drew)); exact (Kd.R_mono (rf_ (Kd.R_types HO125.out BK126.out (by decide)) (fun _ hk => hk.2)) (fun _ h_ => h_.1))) (Kd.R_base ho0) hb); replace BK114 := Aside0.mk (blk_below (g := gb114) (o := .cells #[.int .i64 a0_0, .slice A0_1 l0_1.length c0_1] 57 (0, 0)) (bp_ BK114.out) hb); replace BK115 := Aside0.mk (blk_below (g := gb115) (o := .cells #[.int .i64 a0_0, .slice A0_1 l0_1.length c0_1] 58 (0, 0)) (bp_ BK115.out) hb); replace HB := bs_ HB hb; replace BK126 := Aside0.mk (blk_below (g := gb126) (o := .cells #[.int .i64 t122, .slice Ao30 t123.length co30] 58 (0, 0)) (bp_ BK126.out) hb); (try clear hb); (try clear hb2); (try clear hk); (try clear hi); (try clear ho0)) | ((with_reducible refine gate_dst (N := 8) rfl ?_); (try (refine gate_guard (by rfl) ?_; dsimp only)); refine be_ (N := 8) (cs := #[.int .i64 0, .slice none 0 0]) (t := 58) (h := ?_); intro gb131 hg w33 hbox hb; have BK131 := Aside0.mk (hbox); have GW131 := gw_ HB hg; have GE131 := gw_ HB hg; have NB114_131 := ne_ BK114 hg; have NB131_114 := en_ BK114 hg; have NB115_131 := ne_ BK115 hg; have NB131_115 := en_ BK115 hg; have NB126_131 := ne_ BK126 hg; have NB131_126 := en_ BK126 hg; replace HO_5 := Aside0.mk (Kd.S_below (Kd.S_elderB (by (with_reducible repeat (first | apply Kd.S_alloc | apply Kd.S_drewN | apply Kd.S_drew)); exact HO_5.out) gb131 (Nat.le_of_eq hg.symm)) hb); replace HO125 := Aside0.mk (Kd.R_below (rw_ HO125.out) hb); replace HO130 := Aside0.mk (Kd.R_below (rw_ HO130.out) hb); replace BK114 := bb_ BK114 hb; replace BK115 := bb_ BK115 hb; replace BK126 := bb_ BK126 hb; replace HB := bs_ HB hb; clear hb hbox hg; have hnb34 := NB131_114.out; have hnc34 := NB114_131.out; have hnb35 := NB131_115.out; have hnc35 := NB115_131.out; have hnb36 := NB131_126.out; have hnc36 := NB126_131.out; obtain ⟨hcz37_0, hcz37_1, hfz37_0, hfz37_1⟩ := bc2_ BK131; obtain ⟨Ao38, co38, eo38⟩ := Kd.R_slice HO130.out; subst eo38))
       repeat (go_quiet (first | (go_at_call 56; (with_reducible refine (fall_Nth.calls a0_0 _ _ l0_1 x6_2 t122 t123 _ ?side1 ?side2 A20.out).mono ?_); (case side1 => exact cw_ (Kd.C_below HR0_1.out HB.out)); (case side2 => exact HC0_1.out); rintro e w25 ⟨v124, rfl, ho0, hb⟩; have HO125 := Aside0.mk (Kd.R_lower ho0 (below_size (hb_ HB))); replace HO_5 := Aside0.mk (Kd.S_elder' (by (with_reducible repeat (first | apply Kd.S_alloc | apply Kd.S_drewN | apply Kd.S_drew)); exact HO_5.out) (Kd.R_base ho0) hb); replace BK114 := bb_ BK114 hb; replace BK115 := bb_ BK115 hb; replace HB := bs_ HB hb; (try clear hb); (try clear hb2); (try clear hk); (try clear hi); (try clear ho0)) | ((with_reducible refine gate_dst (N := 7) rfl ?_); (try (refine gate_guard (by rfl) ?_; dsimp only)); refine be_ (N := 7) (cs := #[.int .i64 0, .slice none 0 0]) (t := 58) (h := ?_); intro gb126 hg w26 hbox hb; have BK126 := Aside0.mk (hbox); have GW126 := gw_ HB hg; have GE126 := gw_ HB hg; have NB114_126 := ne_ BK114 hg; have NB126_114 := en_ BK114 hg; have NB115_126 := ne_ BK115 hg; have NB126_115 := en_ BK115 hg; replace HO_5 := Aside0.mk (Kd.S_below (Kd.S_elderB (by (with_reducible repeat (first | apply Kd.S_alloc | apply Kd.S_drewN | apply Kd.S_drew)); exact HO_5.out) gb126 (Nat.le_of_eq hg.symm)) hb); replace HO125 := Aside0.mk (Kd.R_below (rw_ HO125.out) hb); replace BK114 := bb_ BK114 hb; replace BK115 := bb_ BK115 hb; replace HB := bs_ HB hb; clear hb hbox hg; have hnb27 := NB126_114.out; have hnc27 := NB114_126.out; have hnb28 := NB126_115.out; have hnc28 := NB115_126.out; obtain ⟨hcz29_0, hcz29_1, hfz29_0, hfz29_1⟩ := bc2_ BK126; obtain ⟨Ao30, co30, eo30⟩ := Kd.R_slice HO125.out; subst eo30; obtain ⟨hcz31_0, hcz31_1, hfz31_0, hfz31_1⟩ := bc2_ BK115) | (go_at_call 52; (with_reducible refine (fall_Round.calls a0_0 _ _ l0_1 t122 _ _ t123 t127 t128 _ ?side1 ?side2 ?side3 ?side4 A21.out).mono ?_); (case side1 => exact Kd.C_below HR0_1.out (hb_ HB)); (case side2 => exact HC0_1.out); (case side3 => refine (Kd.R_reads' (e := 3) (base := w.heap.size) (ok := fun k_ => True) (n := t123.length) (c := co30) ?_).2.2; exact (by (with_reducible repeat (first | apply Kd.R_alloc | apply Kd.R_drewN | apply Kd.R_drew)); exact (Kd.R_mono (rf_ (Kd.R_types HO125.out BK126.out (by decide)) (fun _ hk => hk.2)) (fun _ h_ => h_.1)))); (case side4 => exact (Kd.R_reads' HO125.out).2.1); rintro e w32 ⟨v129, rfl, ho0, hb⟩; have HO130 := Aside0.mk (Kd.R_lower (Kd.R_new' ho0 (Kd.R_lt (by (with_reducible repeat (first | apply Kd.R_alloc | apply Kd.R_drewN | apply Kd.R_drew)); exact (Kd.R_mono (rf_ (Kd.R_types HO125.out BK126.out (by decide)) (fun _ hk => hk.2)) (fun _ h_ => h_.1))))) (below_size (hb_ HB))); replace HO_5 := Aside0.mk (Kd.S_elder' (by (with_reducible repeat (first | apply Kd.S_alloc | apply Kd.S_drewN | apply Kd.S_drew)); exact (Kd.S_mono (Kd.S_far (p := ⟨gb126, 1, none⟩) (Kd.S_far (p := ⟨gb126, 0, none⟩) (Kd.S_mono HO_5.out (fun k_ hk => (⟨hk, hk.2⟩ : _ ∧ k_ ≠ gb126))) (fun _ hk => hk.2) (.int .i64 t122)) (fun _ hk => hk.2) (.slice Ao30 t123.length co30)) (fun _ h_ => h_.1))) (Kd.R_base ho0) hb); replace HO125 := Aside0.mk (Kd.R_elder' (by (with_reducible repeat (first | apply Kd.R_alloc | apply Kd.R_drewN | apply Kd.R_drew)); exact (Kd.R_mono (rf_ (Kd.R_types HO125.out BK126.out (by decide)) (fun _ hk => hk.2)) (fun _ h_ => h_.1))) (Kd.R_base ho0) hb); replace BK114 := Aside0.mk (blk_below (g := gb114) (o := .cells #[.int .i64 a0_0, .slice A0_1 l0_1.length c0_1] 57 (0, 0)) (bp_ BK114.out) hb); replace BK115 := Aside0.mk (blk_below (g := gb115) (o := .cells #[.int .i64 a0_0, .slice A0_1 l0_1.length c0_1] 58 (0, 0)) (bp_ BK115.out) hb); replace HB := bs_ HB hb; replace BK126 := Aside0.mk (blk_below (g := gb126) (o := .cells #[.int .i64 t122, .slice Ao30 t123.length co30] 58 (0, 0)) (bp_ BK126.out) hb); (try clear hb); (try clear hb2); (try clear hk); (try clear hi); (try clear ho0)) | ((with_reducible refine gate_dst (N := 8) rfl ?_); (try (refine gate_guard (by rfl) ?_; dsimp only)); refine be_ (N := 8) (cs := #[.int .i64 0, .slice none 0 0]) (t := 58) (h := ?_); intro gb131 hg w33 hbox hb; have BK131 := Aside0.mk (hbox); have GW131 := gw_ HB hg; have GE131 := gw_ HB hg; have NB114_131 := ne_ BK114 hg; have NB131_114 := en_ BK114 hg; have NB115_131 := ne_ BK115 hg; have NB131_115 := en_ BK115 hg; have NB126_131 := ne_ BK126 hg; have NB131_126 := en_ BK126 hg; replace HO_5 := Aside0.mk (Kd.S_below (Kd.S_elderB (by (with_reducible repeat (first | apply Kd.S_alloc | apply Kd.S_drewN | apply Kd.S_drew)); exact HO_5.out) gb131 (Nat.le_of_eq hg.symm)) hb); replace HO125 := Aside0.mk (Kd.R_below (rw_ HO125.out) hb); replace HO130 := Aside0.mk (Kd.R_below (rw_ HO130.out) hb); replace BK114 := bb_ BK114 hb; replace BK115 := bb_ BK115 hb; replace BK126 := bb_ BK126 hb; replace HB := bs_ HB hb; clear hb hbox hg; have hnb34 := NB131_114.out; have hnc34 := NB114_131.out; have hnb35 := NB131_115.out; have hnc35 := NB115_131.out; have hnb36 := NB131_126.out; have hnc36 := NB126_131.out; obtain ⟨hcz37_0, hcz37_1, hfz37_0, hfz37_1⟩ := bc2_ BK131; obtain ⟨Ao38, co38, eo38⟩ := Kd.R_slice HO130.out; subst eo38)); go_upto_region 11 with (first | (go_at_call 56; (with_reducible refine (fall_Nth.calls a0_0 _ _ l0_1 x6_2 t122 t123 _ ?side1 ?side2 A20.out).mono ?_); (case side1 => exact cw_ (Kd.C_below HR0_1.out HB.out)); (case side2 => exact HC0_1.out); rintro e w25 ⟨v124, rfl, ho0, hb⟩; have HO125 := Aside0.mk (Kd.R_lower ho0 (below_size (hb_ HB))); replace HO_5 := Aside0.mk (Kd.S_elder' (by (with_reducible repeat (first | apply Kd.S_alloc | apply Kd.S_drewN | apply Kd.S_drew)); exact HO_5.out) (Kd.R_base ho0) hb); replace BK114 := bb_ BK114 hb; replace BK115 := bb_ BK115 hb; replace HB := bs_ HB hb; (try clear hb); (try clear hb2); (try clear hk); (try clear hi); (try clear ho0)) | ((with_reducible refine gate_dst (N := 7) rfl ?_); (try (refine gate_guard (by rfl) ?_; dsimp only)); refine be_ (N := 7) (cs := #[.int .i64 0, .slice none 0 0]) (t := 58) (h := ?_); intro gb126 hg w26 hbox hb; have BK126 := Aside0.mk (hbox); have GW126 := gw_ HB hg; have GE126 := gw_ HB hg; have NB114_126 := ne_ BK114 hg; have NB126_114 := en_ BK114 hg; have NB115_126 := ne_ BK115 hg; have NB126_115 := en_ BK115 hg; replace HO_5 := Aside0.mk (Kd.S_below (Kd.S_elderB (by (with_reducible repeat (first | apply Kd.S_alloc | apply Kd.S_drewN | apply Kd.S_drew)); exact HO_5.out) gb126 (Nat.le_of_eq hg.symm)) hb); replace HO125 := Aside0.mk (Kd.R_below (rw_ HO125.out) hb); replace BK114 := bb_ BK114 hb; replace BK115 := bb_ BK115 hb; replace HB := bs_ HB hb; clear hb hbox hg; have hnb27 := NB126_114.out; have hnc27 := NB114_126.out; have hnb28 := NB126_115.out; have hnc28 := NB115_126.out; obtain ⟨hcz29_0, hcz29_1, hfz29_0, hfz29_1⟩ := bc2_ BK126; obtain ⟨Ao30, co30, eo30⟩ := Kd.R_slice HO125.out; subst eo30; obtain ⟨hcz31_0, hcz31_1, hfz31_0, hfz31_1⟩ := bc2_ BK115) | (go_at_call 52; (with_reducible refine (fall_Round.calls a0_0 _ _ l0_1 t122 _ _ t123 t127 t128 _ ?side1 ?side2 ?side3 ?side4 A21.out).mono ?_); (case side1 => exact Kd.C_below HR0_1.out (hb_ HB)); (case side2 => exact HC0_1.out); (case side3 => refine (Kd.R_reads' (e := 3) (base := w.heap.size) (ok := fun k_ => True) (n := t123.length) (c := co30) ?_).2.2; exact (by (with_reducible repeat (first | apply Kd.R_alloc | apply Kd.R_drewN | apply Kd.R_drew)); exact (Kd.R_mono (rf_ (Kd.R_types HO125.out BK126.out (by decide)) (fun _ hk => hk.2)) (fun _ h_ => h_.1)))); (case side4 => exact (Kd.R_reads' HO125.out).2.1); rintro e w32 ⟨v129, rfl, ho0, hb⟩; have HO130 := Aside0.mk (Kd.R_lower (Kd.R_new' ho0 (Kd.R_lt (by (with_reducible repeat (first | apply Kd.R_alloc | apply Kd.R_drewN | apply Kd.R_drew)); exact (Kd.R_mono (rf_ (Kd.R_types HO125.out BK126.out (by decide)) (fun _ hk => hk.2)) (fun _ h_ => h_.1))))) (below_size (hb_ HB))); replace HO_5 := Aside0.mk (Kd.S_elder' (by (with_reducible repeat (first | apply Kd.S_alloc | apply Kd.S_drewN | apply Kd.S_drew)); exact (Kd.S_mono (Kd.S_far (p := ⟨gb126, 1, none⟩) (Kd.S_far (p := ⟨gb126, 0, none⟩) (Kd.S_mono HO_5.out (fun k_ hk => (⟨hk, hk.2⟩ : _ ∧ k_ ≠ gb126))) (fun _ hk => hk.2) (.int .i64 t122)) (fun _ hk => hk.2) (.slice Ao30 t123.length co30)) (fun _ h_ => h_.1))) (Kd.R_base ho0) hb); replace HO125 := Aside0.mk (Kd.R_elder' (by (with_reducible repeat (first | apply Kd.R_alloc | apply Kd.R_drewN | apply Kd.R_drew)); exact (Kd.R_mono (rf_ (Kd.R_types HO125.out BK126.out (by decide)) (fun _ hk => hk.2)) (fun _ h_ => h_.1))) (Kd.R_base ho0) hb); replace BK114 := Aside0.mk (blk_below (g := gb114) (o := .cells #[.int .i64 a0_0, .slice A0_1 l0_1.length c0_1] 57 (0, 0)) (bp_ BK114.out) hb); replace BK115 := Aside0.mk (blk_below (g := gb115) (o := .cells #[.int .i64 a0_0, .slice A0_1 l0_1.length c0_1] 58 (0, 0)) (bp_ BK115.out) hb); replace HB := bs_ HB hb; replace BK126 := Aside0.mk (blk_below (g := gb126) (o := .cells #[.int .i64 t122, .slice Ao30 t123.length co30] 58 (0, 0)) (bp_ BK126.out) hb); (try clear hb); (try clear hb2); (try clear hk); (try clear hi); (try clear ho0)) | ((with_reducible refine gate_dst (N := 8) rfl ?_); (try (refine gate_guard (by rfl) ?_; dsimp only)); refine be_ (N := 8) (cs := #[.int .i64 0, .slice none 0 0]) (t := 58) (h := ?_); intro gb131 hg w33 hbox hb; have BK131 := Aside0.mk (hbox); have GW131 := gw_ HB hg; have GE131 := gw_ HB hg; have NB114_131 := ne_ BK114 hg; have NB131_114 := en_ BK114 hg; have NB115_131 := ne_ BK115 hg; have NB131_115 := en_ BK115 hg; have NB126_131 := ne_ BK126 hg; have NB131_126 := en_ BK126 hg; replace HO_5 := Aside0.mk (Kd.S_below (Kd.S_elderB (by (with_reducible repeat (first | apply Kd.S_alloc | apply Kd.S_drewN | apply Kd.S_drew)); exact HO_5.out) gb131 (Nat.le_of_eq hg.symm)) hb); replace HO125 := Aside0.mk (Kd.R_below (rw_ HO125.out) hb); replace HO130 := Aside0.mk (Kd.R_below (rw_ HO130.out) hb); replace BK114 := bb_ BK114 hb; replace BK115 := bb_ BK115 hb; replace BK126 := bb_ BK126 hb; replace HB := bs_ HB hb; clear hb hbox hg; have hnb34 := NB131_114.out; have hnc34 := NB114_131.out; have hnb35 := NB131_115.out; have hnc35 := NB115_131.out; have hnb36 := NB131_126.out; have hnc36 := NB126_131.out; obtain ⟨hcz37_0, hcz37_1, hfz37_0, hfz37_1⟩ := bc2_ BK131; obtain ⟨Ao38, co38, eo38⟩ := Kd.R_slice HO130.out; subst eo38)))
       (try simp only [Act.put, List.setIfInBounds_toArray, List.set_cons_zero, List.set_cons_succ])
       go_cut [67] (fun v67 wc => ∃ (kq : Nat) (x67_21 : Bool), v67 = .bool x67_21 ∧ Aside0 (calamuslaw32_FallAll.j2 kq t116 x5_2 x6_2 x67_21 a0_0 l0_1 a0_0 l0_1 t122 t123 = some r) ∧ Aside0 (kq ≤ k2) ∧ Aside0 (Kd.S k58 58 wc w.heap.size (fun k_ => some k_ ≠ ((.slice Ao30 t123.length co30) : Value).ownBlock ∧ some k_ ≠ ((.slice Ao38 t128.length co38) : Value).ownBlock ∧ k_ ≠ gb115 ∧ k_ ≠ gb126 ∧ k_ ≠ gb131) u5 x5_2) ∧ Aside0 (Kd.R (Kd.int .i64) 3 wc w.heap.size (fun k_ => some k_ ≠ ((.slice Ao38 t128.length co38) : Value).ownBlock) (.slice Ao30 t123.length co30) t123) ∧ Aside0 (Kd.R (Kd.int .i64) 3 wc w.heap.size (fun k_ => some k_ ≠ ((.slice Ao30 t123.length co30) : Value).ownBlock) (.slice Ao38 t128.length co38) t128) ∧ Aside0 (wc.heap[gb114]? = some (.cells #[.int .i64 a0_0, (.slice A0_1 l0_1.length c0_1)] 57 (0, 0))) ∧ Aside0 (wc.heap[gb115]? = some (.cells #[.int .i64 a0_0, (.slice A0_1 l0_1.length c0_1)] 58 (0, 0))) ∧ Aside0 (wc.heap[gb126]? = some (.cells #[.int .i64 t122, (.slice Ao30 t123.length co30)] 58 (0, 0))) ∧ Aside0 (wc.heap[gb131]? = some (.cells #[.int .i64 t127, (.slice Ao38 t128.length co38)] 58 (0, 0))) ∧ Aside0 (Below w.heap.size w wc))
       case first =>
        have H := HC22.out
        clear HC22
        by_cases c39 : (t123.length : Int) = (l0_1.length : Int)
        ·rw [if_pos c39] at H
         have c39b0 : ((t123.length : Int) == (l0_1.length : Int)) = true := beq_iff_eq.mpr c39
         have c39b1 : ((t123.length : Int) != (l0_1.length : Int)) = false := bne_eq_false_iff_eq.mpr c39
         have c39b2 : (t123.length == l0_1.length) = true := by first | simpa using c39 | (simp at c39 ⊢; omega)
         clear c39
         (first | rw [c39b0] | (simp only [i64_w, i32_w]; rw [c39b0]) | skip)
         by_cases c40 : t127 = t122
         ·rw [if_pos c40] at H
          have c40b0 : (t127 == t122) = true := beq_iff_eq.mpr c40
          have c40b1 : (t127 != t122) = false := bne_eq_false_iff_eq.mpr c40
          clear c40
          replace H := Option.bind_eq_some_iff.mp H
          obtain ⟨t132, A410, H⟩ := H
          replace H : (calamuslaw32_FallAll.j2 k2 t116 x5_2 x6_2 (!t132) a0_0 l0_1 a0_0 l0_1 t122 t123) = some r := H
          have A41 := Aside0.mk A410
          clear A410
          have H' := Aside0.mk H
          clear H
          have hnb42 := NB126_114.out
          have hnc42 := NB114_126.out
          have hnb43 := NB126_115.out
          have hnc43 := NB115_126.out
          have hnb44 := NB126_131.out
          have hnc44 := NB131_126.out
          obtain ⟨hcz45_0, hcz45_1, hfz45_0, hfz45_1⟩ := bc2_ BK126
          have hnb46 := NB114_115.out
          have hnc46 := NB115_114.out
          have hnb47 := NB114_131.out
          have hnc47 := NB131_114.out
          obtain ⟨hcz48_0, hcz48_1, hfz48_0, hfz48_1⟩ := bc2_ BK114
          have hnb49 := NB131_115.out
          have hnc49 := NB115_131.out
          obtain ⟨hcz50_0, hcz50_1, hfz50_0, hfz50_1⟩ := bc2_ BK131
          go_wp2_with (first | (go_at_call 26; (with_reducible refine (calamusref01_Same.calls k2 _ _ t128 _ _ t123 t132 _ ?side1 ?side2 ?side3 ?side4 A41.out).mono ?_); (case side1 => refine (Kd.R_reads' (e := 3) (base := w.heap.size) (ok := fun k_ => (True ∧ some k_ ≠ (.slice Ao30 t123.length co30 : Value).ownBlock)) (n := t128.length) (c := co38) ?_).2.2; exact (by (with_reducible repeat (first | apply Kd.R_alloc | apply Kd.R_drewN | apply Kd.R_drew)); exact (Kd.R_mono (rf_ (Kd.R_types HO130.out BK131.out (by decide)) (fun _ hk => hk.2)) (fun _ h_ => h_.1)))); (case side2 => exact (Kd.R_reads' HO130.out).2.1); (case side3 => refine (Kd.R_reads' (e := 3) (base := w.heap.size) (ok := fun k_ => (True ∧ some k_ ≠ (.slice Ao38 t128.length co38 : Value).ownBlock)) (n := t123.length) (c := co30) ?_).2.2; exact (by (with_reducible repeat (first | apply Kd.R_alloc | apply Kd.R_drewN | apply Kd.R_drew)); exact (Kd.R_mono (rf_ (Kd.R_types HO125.out BK131.out (by decide)) (fun _ hk => hk.2)) (fun _ h_ => h_.1)))); (case side4 => exact (Kd.R_reads' HO125.out).2.1); rintro e w' ⟨rfl, ⟨nd, rfl⟩⟩; (try first | exact ⟨rfl, _, World.drewN_drewN _ _ _⟩ | exact ⟨rfl, _, Eq.trans (World.drewN_drewN _ _ _) (congrArg (World.drewN _) (Nat.add_assoc _ _ _))⟩)))
          repeat (go_quiet (first | (go_at_call 26; (with_reducible refine (calamusref01_Same.calls k2 _ _ t128 _ _ t123 t132 _ ?side1 ?side2 ?side3 ?side4 A41.out).mono ?_); (case side1 => refine (Kd.R_reads' (e := 3) (base := w.heap.size) (ok := fun k_ => (True ∧ some k_ ≠ (.slice Ao30 t123.length co30 : Value).ownBlock)) (n := t128.length) (c := co38) ?_).2.2; exact (by (with_reducible repeat (first | apply Kd.R_alloc | apply Kd.R_drewN | apply Kd.R_drew)); exact (Kd.R_mono (rf_ (Kd.R_types HO130.out BK131.out (by decide)) (fun _ hk => hk.2)) (fun _ h_ => h_.1)))); (case side2 => exact (Kd.R_reads' HO130.out).2.1); (case side3 => refine (Kd.R_reads' (e := 3) (base := w.heap.size) (ok := fun k_ => (True ∧ some k_ ≠ (.slice Ao38 t128.length co38 : Value).ownBlock)) (n := t123.length) (c := co30) ?_).2.2; exact (by (with_reducible repeat (first | apply Kd.R_alloc | apply Kd.R_drewN | apply Kd.R_drew)); exact (Kd.R_mono (rf_ (Kd.R_types HO125.out BK131.out (by decide)) (fun _ hk => hk.2)) (fun _ h_ => h_.1)))); (case side4 => exact (Kd.R_reads' HO125.out).2.1); rintro e w' ⟨rfl, ⟨nd, rfl⟩⟩; (try first | exact ⟨rfl, _, World.drewN_drewN _ _ _⟩ | exact ⟨rfl, _, Eq.trans (World.drewN_drewN _ _ _) (congrArg (World.drewN _) (Nat.add_assoc _ _ _))⟩))); try go_wp2_with (first | (go_at_call 26; (with_reducible refine (calamusref01_Same.calls k2 _ _ t128 _ _ t123 t132 _ ?side1 ?side2 ?side3 ?side4 A41.out).mono ?_); (case side1 => refine (Kd.R_reads' (e := 3) (base := w.heap.size) (ok := fun k_ => (True ∧ some k_ ≠ (.slice Ao30 t123.length co30 : Value).ownBlock)) (n := t128.length) (c := co38) ?_).2.2; exact (by (with_reducible repeat (first | apply Kd.R_alloc | apply Kd.R_drewN | apply Kd.R_drew)); exact (Kd.R_mono (rf_ (Kd.R_types HO130.out BK131.out (by decide)) (fun _ hk => hk.2)) (fun _ h_ => h_.1)))); (case side2 => exact (Kd.R_reads' HO130.out).2.1); (case side3 => refine (Kd.R_reads' (e := 3) (base := w.heap.size) (ok := fun k_ => (True ∧ some k_ ≠ (.slice Ao38 t128.length co38 : Value).ownBlock)) (n := t123.length) (c := co30) ?_).2.2; exact (by (with_reducible repeat (first | apply Kd.R_alloc | apply Kd.R_drewN | apply Kd.R_drew)); exact (Kd.R_mono (rf_ (Kd.R_types HO125.out BK131.out (by decide)) (fun _ hk => hk.2)) (fun _ h_ => h_.1)))); (case side4 => exact (Kd.R_reads' HO125.out).2.1); rintro e w' ⟨rfl, ⟨nd, rfl⟩⟩; (try first | exact ⟨rfl, _, World.drewN_drewN _ _ _⟩ | exact ⟨rfl, _, Eq.trans (World.drewN_drewN _ _ _) (congrArg (World.drewN _) (Nat.add_assoc _ _ _))⟩))))
          go_meet
          case rel => exact ⟨_, (!t132), es_, H', ⟨by have := HJ2.out; have := HK2.out; first | omega | exact Nat.le_refl _⟩, ⟨by (with_reducible repeat (first | apply Kd.S_alloc | apply Kd.S_drewN | apply Kd.S_drew)); exact Kd.S_mono (Kd.S_far (p := ⟨gb131, 1, none⟩) (Kd.S_far (p := ⟨gb131, 0, none⟩) (Kd.S_mono HO_5.out (fun k_ hk => (⟨hk, hk.2⟩ : _ ∧ k_ ≠ gb131))) (fun _ hk => hk.2) (.int .i64 t127)) (fun _ hk => hk.2) (.slice Ao38 t128.length co38)) (fun _ hk => ⟨hk.1.1.1.1.2, ⟨hk.1.1.2, ⟨hk.1.1.1.1.1, ⟨hk.1.1.1.2, hk.1.2⟩⟩⟩⟩)⟩, ⟨by (with_reducible repeat (first | apply Kd.R_alloc | apply Kd.R_drewN | apply Kd.R_drew)); exact Kd.R_mono (rf_ (Kd.R_types HO125.out BK131.out (by decide)) (fun _ hk => hk.2)) (fun _ hk => hk.1.2)⟩, ⟨by (with_reducible repeat (first | apply Kd.R_alloc | apply Kd.R_drewN | apply Kd.R_drew)); exact Kd.R_mono (rf_ (Kd.R_types HO130.out BK131.out (by decide)) (fun _ hk => hk.2)) (fun _ hk => hk.1.2)⟩, ⟨bp_ BK114.out⟩, ⟨bp_ BK115.out⟩, ⟨bp_ BK126.out⟩, ⟨bp_ BK131.out⟩, ⟨hb_ HB⟩⟩
         ·rw [if_neg c40] at H
          have c40b0 : (t127 == t122) = false := beq_eq_false_iff_ne.mpr c40
          have c40b1 : (t127 != t122) = true := bne_iff_ne.mpr c40
          have H' := Aside0.mk H
          clear H
          have hnb51 := NB126_114.out
          have hnc51 := NB114_126.out
          have hnb52 := NB126_115.out
          have hnc52 := NB115_126.out
          have hnb53 := NB126_131.out
          have hnc53 := NB131_126.out
          obtain ⟨hcz54_0, hcz54_1, hfz54_0, hfz54_1⟩ := bc2_ BK126
          have hnb55 := NB114_115.out
          have hnc55 := NB115_114.out
          have hnb56 := NB114_131.out
          have hnc56 := NB131_114.out
          obtain ⟨hcz57_0, hcz57_1, hfz57_0, hfz57_1⟩ := bc2_ BK114
          have hnb58 := NB131_115.out
          have hnc58 := NB115_131.out
          obtain ⟨hcz59_0, hcz59_1, hfz59_0, hfz59_1⟩ := bc2_ BK131
          go_wp2
          repeat (go_quiet (fail); try go_wp2)
          go_meet
          case rel => exact ⟨_, (true), es_, H', ⟨by have := HJ2.out; have := HK2.out; first | omega | exact Nat.le_refl _⟩, ⟨by (with_reducible repeat (first | apply Kd.S_alloc | apply Kd.S_drewN | apply Kd.S_drew)); exact Kd.S_mono (Kd.S_far (p := ⟨gb131, 1, none⟩) (Kd.S_far (p := ⟨gb131, 0, none⟩) (Kd.S_mono HO_5.out (fun k_ hk => (⟨hk, hk.2⟩ : _ ∧ k_ ≠ gb131))) (fun _ hk => hk.2) (.int .i64 t127)) (fun _ hk => hk.2) (.slice Ao38 t128.length co38)) (fun _ hk => ⟨hk.1.1.1.1.2, ⟨hk.1.1.2, ⟨hk.1.1.1.1.1, ⟨hk.1.1.1.2, hk.1.2⟩⟩⟩⟩)⟩, ⟨by (with_reducible repeat (first | apply Kd.R_alloc | apply Kd.R_drewN | apply Kd.R_drew)); exact Kd.R_mono (rf_ (Kd.R_types HO125.out BK131.out (by decide)) (fun _ hk => hk.2)) (fun _ hk => hk.1.2)⟩, ⟨by (with_reducible repeat (first | apply Kd.R_alloc | apply Kd.R_drewN | apply Kd.R_drew)); exact Kd.R_mono (rf_ (Kd.R_types HO130.out BK131.out (by decide)) (fun _ hk => hk.2)) (fun _ hk => hk.1.2)⟩, ⟨bp_ BK114.out⟩, ⟨bp_ BK115.out⟩, ⟨bp_ BK126.out⟩, ⟨bp_ BK131.out⟩, ⟨hb_ HB⟩⟩
        ·rw [if_neg c39] at H
         have c39b0 : ((t123.length : Int) == (l0_1.length : Int)) = false := beq_eq_false_iff_ne.mpr c39
         have c39b1 : ((t123.length : Int) != (l0_1.length : Int)) = true := bne_iff_ne.mpr c39
         have c39b2 : (t123.length == l0_1.length) = false := by first | simpa using c39 | (simp at c39 ⊢; omega)
         (first | rw [c39b0] | (simp only [i64_w, i32_w]; rw [c39b0]) | skip)
         have H' := Aside0.mk H
         clear H
         have hnb60 := NB126_114.out
         have hnc60 := NB114_126.out
         have hnb61 := NB126_115.out
         have hnc61 := NB115_126.out
         have hnb62 := NB126_131.out
         have hnc62 := NB131_126.out
         obtain ⟨hcz63_0, hcz63_1, hfz63_0, hfz63_1⟩ := bc2_ BK126
         have hnb64 := NB114_115.out
         have hnc64 := NB115_114.out
         have hnb65 := NB114_131.out
         have hnc65 := NB131_114.out
         obtain ⟨hcz66_0, hcz66_1, hfz66_0, hfz66_1⟩ := bc2_ BK114
         go_wp2
         repeat (go_quiet (fail); try go_wp2)
         go_meet
         case rel => exact ⟨_, (true), es_, H', ⟨by have := HJ2.out; have := HK2.out; first | omega | exact Nat.le_refl _⟩, ⟨by (with_reducible repeat (first | apply Kd.S_alloc | apply Kd.S_drewN | apply Kd.S_drew)); exact Kd.S_mono (Kd.S_far (p := ⟨gb131, 1, none⟩) (Kd.S_far (p := ⟨gb131, 0, none⟩) (Kd.S_mono HO_5.out (fun k_ hk => (⟨hk, hk.2⟩ : _ ∧ k_ ≠ gb131))) (fun _ hk => hk.2) (.int .i64 t127)) (fun _ hk => hk.2) (.slice Ao38 t128.length co38)) (fun _ hk => ⟨hk.1.1.1.1.2, ⟨hk.1.1.2, ⟨hk.1.1.1.1.1, ⟨hk.1.1.1.2, hk.1.2⟩⟩⟩⟩)⟩, ⟨by (with_reducible repeat (first | apply Kd.R_alloc | apply Kd.R_drewN | apply Kd.R_drew)); exact Kd.R_mono (rf_ (Kd.R_types HO125.out BK131.out (by decide)) (fun _ hk => hk.2)) (fun _ hk => hk.1.2)⟩, ⟨by (with_reducible repeat (first | apply Kd.R_alloc | apply Kd.R_drewN | apply Kd.R_drew)); exact Kd.R_mono (rf_ (Kd.R_types HO130.out BK131.out (by decide)) (fun _ hk => hk.2)) (fun _ hk => hk.1.2)⟩, ⟨bp_ BK114.out⟩, ⟨bp_ BK115.out⟩, ⟨bp_ BK126.out⟩, ⟨bp_ BK131.out⟩, ⟨hb_ HB⟩⟩
       case rest =>
        clear HC22
        try clear c14
        try clear c19
        try clear c19b0
        try clear hcz24_0
        try clear hcz24_1
        try clear hcz29_0
        try clear hcz29_1
        try clear hcz31_0
        try clear hcz31_1
        try clear hcz37_0
        try clear hcz37_1
        try clear hcz5_0
        try clear hcz5_1
        try clear hcz8_0
        try clear hcz8_1
        try clear hfz24_0
        try clear hfz24_1
        try clear hfz29_0
        try clear hfz29_1
        try clear hfz31_0
        try clear hfz31_1
        try clear hfz37_0
        try clear hfz37_1
        try clear hfz5_0
        try clear hfz5_1
        try clear hfz8_0
        try clear hfz8_1
        obtain ⟨kq, x67_21, rfl, HA, HJ21, HO_5, HO_127001, HO_132001, BK114, BK115, BK126, BK131, HB⟩ := hcut
        cases kq with
        | zero => exact absurd HA.out (by simp [calamuslaw32_FallAll.j2])
        | succ kj21 =>
         have H := HA.out
         clear HA
         simp only [calamuslaw32_FallAll.j2] at H
         by_cases c67 : x67_21 = true
         ·subst c67
          have H1 : (some false) = some r := by rw [if_pos rfl] at H; exact H
          clear H
          have H := H1
          clear H1
          exact nf_ H hr_
         ·replace c67 := Bool.eq_false_iff.mpr c67
          subst c67
          have H1 : (calamuslaw32_FallAll.l1 kj21 t116 x5_2 x6_2 0 a0_0 l0_1 a0_0 l0_1 t122 t123) = some r := by rw [if_neg (show ¬ (false = true) by decide)] at H; exact H
          clear H
          have H := H1
          clear H1
          have H' := Aside0.mk H
          clear H
          go_wp2
          repeat (go_quiet (fail); try go_wp2)
          go_loopg [9] kj21 (fun kq v9 w' => ∃ (x9_4 : Int), v9 = .int .i64 x9_4 ∧ Aside0 (calamuslaw32_FallAll.l1 kq t116 x5_2 x6_2 x9_4 a0_0 l0_1 a0_0 l0_1 t122 t123 = some r) ∧ Aside0 (kq ≤ kj21) ∧ Aside0 (Kd.S k58 58 w' w.heap.size (fun k_ => some k_ ≠ ((.slice Ao30 t123.length co30) : Value).ownBlock ∧ some k_ ≠ ((.slice Ao38 t128.length co38) : Value).ownBlock ∧ k_ ≠ gb115 ∧ k_ ≠ gb126 ∧ k_ ≠ gb131) u5 x5_2) ∧ Aside0 (Kd.R (Kd.int .i64) 3 w' w.heap.size (fun k_ => some k_ ≠ ((.slice Ao38 t128.length co38) : Value).ownBlock) (.slice Ao30 t123.length co30) t123) ∧ Aside0 (Kd.R (Kd.int .i64) 3 w' w.heap.size (fun k_ => some k_ ≠ ((.slice Ao30 t123.length co30) : Value).ownBlock) (.slice Ao38 t128.length co38) t128) ∧ Aside0 (w'.heap[gb114]? = some (.cells #[.int .i64 a0_0, (.slice A0_1 l0_1.length c0_1)] 57 (0, 0))) ∧ Aside0 (w'.heap[gb115]? = some (.cells #[.int .i64 a0_0, (.slice A0_1 l0_1.length c0_1)] 58 (0, 0))) ∧ Aside0 (w'.heap[gb126]? = some (.cells #[.int .i64 t122, (.slice Ao30 t123.length co30)] 58 (0, 0))) ∧ Aside0 (w'.heap[gb131]? = some (.cells #[.int .i64 t127, (.slice Ao38 t128.length co38)] 58 (0, 0))) ∧ Aside0 (Below w.heap.size w w'))
          case atStart => exact ⟨(0), es_, H', ⟨Nat.le_refl _⟩, ⟨by (with_reducible repeat (first | apply Kd.S_alloc | apply Kd.S_drewN | apply Kd.S_drew)); exact HO_5.out⟩, ⟨rw_ HO_127001.out⟩, ⟨rw_ HO_132001.out⟩, ⟨bw_ BK114.out⟩, ⟨bw_ BK115.out⟩, ⟨bw_ BK126.out⟩, ⟨bw_ BK131.out⟩, ⟨hb_ HB⟩⟩
          case round =>
           clear H'
           try clear c14
           try clear c19
           try clear c19b0
           try clear c67
           try clear hcz24_0
           try clear hcz24_1
           try clear hcz29_0
           try clear hcz29_1
           try clear hcz31_0
           try clear hcz31_1
           try clear hcz37_0
           try clear hcz37_1
           try clear hcz5_0
           try clear hcz5_1
           try clear hcz8_0
           try clear hcz8_1
           try clear hfz24_0
           try clear hfz24_1
           try clear hfz29_0
           try clear hfz29_1
           try clear hfz31_0
           try clear hfz31_1
           try clear hfz37_0
           try clear hfz37_1
           try clear hfz5_0
           try clear hfz5_1
           try clear hfz8_0
           try clear hfz8_1
           obtain ⟨x9_4, rfl, HA, HK4, HO_5, HO_127001, HO_132001, BK114, BK115, BK126, BK131, HB⟩ := hrel
           cases gk with
           | zero => exact absurd HA.out (by simp [calamuslaw32_FallAll.l1])
           | succ k4 =>
            have H := HA.out
            clear HA
            simp only [calamuslaw32_FallAll.l1] at H
            by_cases c68 : x9_4 < (x5_2.length : Int)
            ·rw [if_pos c68] at H
             have c68b0 : decide (x9_4 < (x5_2.length : Int)) = true := decide_eq_true c68
             clear c68
             by_cases c69 : 0 ≤ x9_4
             ·rw [if_pos c69] at H
              have c69b0 : decide (0 ≤ x9_4) = true := decide_eq_true c69
              clear c69
              by_cases c70 : ((rd_T58 x5_2 x9_4).f0) = t122
              ·rw [if_pos c70] at H
               have c70b0 : (((rd_T58 x5_2 x9_4).f0) == t122) = true := beq_iff_eq.mpr c70
               have c70b1 : (((rd_T58 x5_2 x9_4).f0) != t122) = false := bne_eq_false_iff_eq.mpr c70
               clear c70
               replace H := Option.bind_eq_some_iff.mp H
               obtain ⟨t135, A710, H⟩ := H
               replace H : (if t135 = true then (some false) else (calamuslaw32_FallAll.l1 k4 t116 x5_2 x6_2 (wrap64 (x9_4 + 1)) a0_0 l0_1 a0_0 l0_1 t122 t123)) = some r := H
               have A71 := Aside0.mk A710
               clear A710
               by_cases c72 : t135 = true
               ·subst c72
                have H1 : (some false) = some r := by rw [if_pos rfl] at H; exact H
                clear H
                have H := H1
                clear H1
                exact nf_ H hr_
               ·replace c72 := Bool.eq_false_iff.mpr c72
                subst c72
                have H1 : (calamuslaw32_FallAll.l1 k4 t116 x5_2 x6_2 (wrap64 (x9_4 + 1)) a0_0 l0_1 a0_0 l0_1 t122 t123) = some r := by rw [if_neg (show ¬ (false = true) by decide)] at H; exact H
                clear H
                have H := H1
                clear H1
                have H' := Aside0.mk H
                clear H
                obtain ⟨Ao78, co78, eo78⟩ := Kd.S_slice HO_5.out
                subst eo78
                have p133 : 0 ≤ (x9_4 : Int) := of_decide_eq_true as_
                have q133 : x9_4 < (x5_2.length : Int) := of_decide_eq_true as_
                obtain ⟨ad133, A133_1, c133_1, e133, hx133_0, hx133_1, hl133_1, hi133_1⟩ := at_T58 (Kd.S_reads' HO_5.out).2.2 x9_4 p133 q133
                cases e133
                obtain ⟨ce133, hce133, hMe133, hcc133⟩ := Kd.S_get HO_5.out z58 x9_4 p133 (by first | exact q133 | exact of_decide_eq_true as_ | (have e_ := (Kd.S_reads' HO_5.out).1; omega))
                obtain ⟨ve133_1, rfl, ge133_1⟩ := k58_openM hMe133
                have hv133_1 := hcc133 1 _ rfl
                rw [add_field _ _ 1 (by omega)] at hv133_1
                replace hv133_1 := Option.some.inj (hv133_1.symm.trans hx133_1)
                rw [hv133_1] at ge133_1
                have HL133_1 := Aside0.mk (show Kd.R (Kd.int .i64) 3 _ _ _ _ ((rd_T58 x5_2 x9_4).f1) from ge133_1)
                clear hv133_1 ge133_1
                clear hcc133 hce133
                have HR133_1 := Aside0.mk hi133_1
                have HC133_1 := Aside0.mk hl133_1
                clear hi133_1 hl133_1
                replace p133 := eq_true p133
                replace q133 := eq_true q133
                have hnb79 := NB126_114.out
                have hnc79 := NB114_126.out
                have hnb80 := NB126_115.out
                have hnc80 := NB115_126.out
                have hnb81 := NB126_131.out
                have hnc81 := NB131_126.out
                obtain ⟨hcz82_0, hcz82_1, hfz82_0, hfz82_1⟩ := bc2_ BK126
                have p134 : 0 ≤ (x9_4 : Int) := of_decide_eq_true as_
                have q134 : x9_4 < (x5_2.length : Int) := of_decide_eq_true as_
                obtain ⟨ad134, A134_1, c134_1, e134, hx134_0, hx134_1, hl134_1, hi134_1⟩ := at_T58 (Kd.S_reads' HO_5.out).2.2 x9_4 p134 q134
                obtain rfl : ad133 = ad134 := (by injection e134)
                obtain ⟨ce134, hce134, hMe134, hcc134⟩ := Kd.S_get HO_5.out z58 x9_4 p134 (by first | exact q134 | exact of_decide_eq_true as_ | (have e_ := (Kd.S_reads' HO_5.out).1; omega))
                obtain ⟨ve134_1, rfl, ge134_1⟩ := k58_openM hMe134
                have hv134_1 := hcc134 1 _ rfl
                rw [add_field _ _ 1 (by omega)] at hv134_1
                replace hv134_1 := Option.some.inj (hv134_1.symm.trans hx134_1)
                rw [hv134_1] at ge134_1
                have HL134_1 := Aside0.mk (show Kd.R (Kd.int .i64) 3 _ _ _ _ ((rd_T58 x5_2 x9_4).f1) from ge134_1)
                clear hv134_1 ge134_1
                clear hcc134 hce134
                have HR134_1 := Aside0.mk hi134_1
                have HC134_1 := Aside0.mk hl134_1
                clear hi134_1 hl134_1
                replace p134 := eq_true p134
                replace q134 := eq_true q134
                have ea_ := Option.some.inj (hx133_1.symm.trans hx134_1)
                injection ea_ with ea_ en_ ec_
                subst ea_
                subst ec_
                clear en_
                go_wp2_with (first | (go_at_call 26; (with_reducible refine (calamusref01_Same.calls k4 _ _ ((rd_T58 x5_2 x9_4).f1) _ _ t123 false _ ?side1 ?side2 ?side3 ?side4 A71.out).mono ?_); (case side1 => repeat (first | exact (by repeat (first | (with_reducible exact HR134_1.out) | (with_reducible refine Kd.C_alloc ?_ _) | (with_reducible refine Kd.C_drewN ?_ _) | (with_reducible refine Kd.C_drew ?_) | exact HR134_1.out)) | (with_reducible refine Kd.C_alloc ?_ _) | (with_reducible refine Kd.C_drewN ?_ _) | (with_reducible refine Kd.C_drew ?_))); (case side2 => exact HC134_1.out); (case side3 => repeat (first | exact (Kd.R_reads' HO_127001.out).2.2 | (with_reducible refine Kd.C_alloc ?_ _) | (with_reducible refine Kd.C_drewN ?_ _) | (with_reducible refine Kd.C_drew ?_))); (case side4 => exact (Kd.R_reads' HO_127001.out).2.1); rintro e w' ⟨rfl, ⟨nd, rfl⟩⟩; (try first | exact ⟨rfl, _, World.drewN_drewN _ _ _⟩ | exact ⟨rfl, _, Eq.trans (World.drewN_drewN _ _ _) (congrArg (World.drewN _) (Nat.add_assoc _ _ _))⟩)))
                repeat (go_quiet (first | (go_at_call 26; (with_reducible refine (calamusref01_Same.calls k4 _ _ ((rd_T58 x5_2 x9_4).f1) _ _ t123 false _ ?side1 ?side2 ?side3 ?side4 A71.out).mono ?_); (case side1 => repeat (first | exact (by repeat (first | (with_reducible exact HR134_1.out) | (with_reducible refine Kd.C_alloc ?_ _) | (with_reducible refine Kd.C_drewN ?_ _) | (with_reducible refine Kd.C_drew ?_) | exact HR134_1.out)) | (with_reducible refine Kd.C_alloc ?_ _) | (with_reducible refine Kd.C_drewN ?_ _) | (with_reducible refine Kd.C_drew ?_))); (case side2 => exact HC134_1.out); (case side3 => repeat (first | exact (Kd.R_reads' HO_127001.out).2.2 | (with_reducible refine Kd.C_alloc ?_ _) | (with_reducible refine Kd.C_drewN ?_ _) | (with_reducible refine Kd.C_drew ?_))); (case side4 => exact (Kd.R_reads' HO_127001.out).2.1); rintro e w' ⟨rfl, ⟨nd, rfl⟩⟩; (try first | exact ⟨rfl, _, World.drewN_drewN _ _ _⟩ | exact ⟨rfl, _, Eq.trans (World.drewN_drewN _ _ _) (congrArg (World.drewN _) (Nat.add_assoc _ _ _))⟩))); try go_wp2_with (first | (go_at_call 26; (with_reducible refine (calamusref01_Same.calls k4 _ _ ((rd_T58 x5_2 x9_4).f1) _ _ t123 false _ ?side1 ?side2 ?side3 ?side4 A71.out).mono ?_); (case side1 => repeat (first | exact (by repeat (first | (with_reducible exact HR134_1.out) | (with_reducible refine Kd.C_alloc ?_ _) | (with_reducible refine Kd.C_drewN ?_ _) | (with_reducible refine Kd.C_drew ?_) | exact HR134_1.out)) | (with_reducible refine Kd.C_alloc ?_ _) | (with_reducible refine Kd.C_drewN ?_ _) | (with_reducible refine Kd.C_drew ?_))); (case side2 => exact HC134_1.out); (case side3 => repeat (first | exact (Kd.R_reads' HO_127001.out).2.2 | (with_reducible refine Kd.C_alloc ?_ _) | (with_reducible refine Kd.C_drewN ?_ _) | (with_reducible refine Kd.C_drew ?_))); (case side4 => exact (Kd.R_reads' HO_127001.out).2.1); rintro e w' ⟨rfl, ⟨nd, rfl⟩⟩; (try first | exact ⟨rfl, _, World.drewN_drewN _ _ _⟩ | exact ⟨rfl, _, Eq.trans (World.drewN_drewN _ _ _) (congrArg (World.drewN _) (Nat.add_assoc _ _ _))⟩))))
                go_roundg k4
                case measure => have := HJ2.out; have := HK2.out; have := HJ21.out; have := HK4.out; omega
                case rel => exact ⟨(wrap64 (x9_4 + 1)), es_, H', ⟨by have := HJ2.out; have := HK2.out; have := HJ21.out; have := HK4.out; omega⟩, ⟨by (with_reducible repeat (first | apply Kd.S_alloc | apply Kd.S_drewN | apply Kd.S_drew)); exact HO_5.out⟩, ⟨rw_ HO_127001.out⟩, ⟨rw_ HO_132001.out⟩, ⟨bw_ BK114.out⟩, ⟨bw_ BK115.out⟩, ⟨bw_ BK126.out⟩, ⟨bw_ BK131.out⟩, ⟨hb_ HB⟩⟩
              ·rw [if_neg c70] at H
               have c70b0 : (((rd_T58 x5_2 x9_4).f0) == t122) = false := beq_eq_false_iff_ne.mpr c70
               have c70b1 : (((rd_T58 x5_2 x9_4).f0) != t122) = true := bne_iff_ne.mpr c70
               have H' := Aside0.mk H
               clear H
               obtain ⟨Ao83, co83, eo83⟩ := Kd.S_slice HO_5.out
               subst eo83
               have p133 : 0 ≤ (x9_4 : Int) := of_decide_eq_true as_
               have q133 : x9_4 < (x5_2.length : Int) := of_decide_eq_true as_
               obtain ⟨ad133, A133_1, c133_1, e133, hx133_0, hx133_1, hl133_1, hi133_1⟩ := at_T58 (Kd.S_reads' HO_5.out).2.2 x9_4 p133 q133
               cases e133
               obtain ⟨ce133, hce133, hMe133, hcc133⟩ := Kd.S_get HO_5.out z58 x9_4 p133 (by first | exact q133 | exact of_decide_eq_true as_ | (have e_ := (Kd.S_reads' HO_5.out).1; omega))
               obtain ⟨ve133_1, rfl, ge133_1⟩ := k58_openM hMe133
               have hv133_1 := hcc133 1 _ rfl
               rw [add_field _ _ 1 (by omega)] at hv133_1
               replace hv133_1 := Option.some.inj (hv133_1.symm.trans hx133_1)
               rw [hv133_1] at ge133_1
               have HL133_1 := Aside0.mk (show Kd.R (Kd.int .i64) 3 _ _ _ _ ((rd_T58 x5_2 x9_4).f1) from ge133_1)
               clear hv133_1 ge133_1
               clear hcc133 hce133
               have HR133_1 := Aside0.mk hi133_1
               have HC133_1 := Aside0.mk hl133_1
               clear hi133_1 hl133_1
               replace p133 := eq_true p133
               replace q133 := eq_true q133
               have hnb84 := NB126_114.out
               have hnc84 := NB114_126.out
               have hnb85 := NB126_115.out
               have hnc85 := NB115_126.out
               have hnb86 := NB126_131.out
               have hnc86 := NB131_126.out
               obtain ⟨hcz87_0, hcz87_1, hfz87_0, hfz87_1⟩ := bc2_ BK126
               go_wp2
               repeat (go_quiet (fail); try go_wp2)
               go_roundg k4
               case measure => have := HJ2.out; have := HK2.out; have := HJ21.out; have := HK4.out; omega
               case rel => exact ⟨(wrap64 (x9_4 + 1)), es_, H', ⟨by have := HJ2.out; have := HK2.out; have := HJ21.out; have := HK4.out; omega⟩, ⟨by (with_reducible repeat (first | apply Kd.S_alloc | apply Kd.S_drewN | apply Kd.S_drew)); exact HO_5.out⟩, ⟨rw_ HO_127001.out⟩, ⟨rw_ HO_132001.out⟩, ⟨bw_ BK114.out⟩, ⟨bw_ BK115.out⟩, ⟨bw_ BK126.out⟩, ⟨bw_ BK131.out⟩, ⟨hb_ HB⟩⟩
             ·rw [if_neg c69] at H
              exact absurd H (by simp)
            ·rw [if_neg c68] at H
             have c68b0 : decide (x9_4 < (x5_2.length : Int)) = false := decide_eq_false c68
             clear c68
             by_cases c88 : x5_2.length < 4398046511104
             ·rw [if_pos c88] at H
              have LMc88 := Aside0.mk c88
              clear c88
              obtain ⟨y136, hy136⟩ : ∃ y_ : List (S58), y_ = (x5_2 ++ [(⟨t122, t123⟩ : S58)]) := ⟨_, rfl⟩
              replace H : (calamuslaw32_FallAll.l0 k4 t116 y136 (wrap64 (x6_2 + 1)) a0_0 l0_1 a0_0 l0_1) = some r := th_ H hy136
              have Ny136 := Aside0.mk hy136
              clear hy136
              have H' := Aside0.mk H
              clear H
              obtain ⟨Ao89, co89, eo89⟩ := Kd.S_slice HO_5.out
              subst eo89
              have hnb90 := NB126_114.out
              have hnc90 := NB114_126.out
              have hnb91 := NB126_115.out
              have hnc91 := NB115_126.out
              have hnb92 := NB126_131.out
              have hnc92 := NB131_126.out
              obtain ⟨hcz93_0, hcz93_1, hfz93_0, hfz93_1⟩ := bc2_ BK126
              go_wp2_with (first | ((with_reducible refine gate_builtin (b := .append) (xs := #[.tmp 92, .tmp 94]) rfl ?_); (try (refine gate_guard (by rfl) ?_; dsimp only)); at_builtin; refine Kd.S_append k58 (w0 := w) w.heap.size rfl (.tmp 92) (.tmp 94) 67 58 (.agg #[(.int .i64 0), (.slice none 0 0)]) 32 rfl Try.underlying67 info58 rfl (by decide) (by omega) (.slice Ao89 x5_2.length co89) x5_2 (⟨t122, t123⟩ : S58) [.int .i64 t122, .slice Ao30 t123.length co30] (fun k_ => some k_ ≠ (.slice Ao38 t128.length co38 : Value).ownBlock ∧ k_ ≠ gb115 ∧ k_ ≠ gb126 ∧ k_ ≠ gb131) (fun k_ => some k_ = (.slice Ao30 t123.length co30 : Value).ownBlock) rfl rfl ?aP (fun k_ hk_ => ((Kd.R_mono (ok' := fun k_ => ((fun k_ => some k_ ≠ (.slice Ao38 t128.length co38 : Value).ownBlock ∧ k_ ≠ gb115 ∧ k_ ≠ gb126 ∧ k_ ≠ gb131)) k_ ∧ some k_ ≠ (.slice Ao89 x5_2.length co89 : Value).ownBlock) (Kd.R_types (Kd.R_types (Kd.R_types (Kd.R_apart' (HO_127001.out) (Kd.S_typed HO_5.out) (by decide)) BK115.out (by decide)) BK126.out (by decide)) BK131.out (by decide)) (fun k_ hk => ⟨⟨hk.1.1.1.1, ⟨hk.1.1.2, ⟨hk.1.2, hk.2⟩⟩⟩, hk.1.1.1.2⟩))).1 k_ hk_.symm) ?aF ?aO ?aB ?aS ?aL ?_; (case aP => exact k58_mkM _ _ _ (⟨t122, t123⟩ : S58) (Kd.R_mono (Kd.R_tight rfl (Kd.R_mono (ok' := fun k_ => ((fun k_ => some k_ ≠ (.slice Ao38 t128.length co38 : Value).ownBlock ∧ k_ ≠ gb115 ∧ k_ ≠ gb126 ∧ k_ ≠ gb131)) k_ ∧ some k_ ≠ (.slice Ao89 x5_2.length co89 : Value).ownBlock) (Kd.R_types (Kd.R_types (Kd.R_types (Kd.R_apart' (HO_127001.out) (Kd.S_typed HO_5.out) (by decide)) BK115.out (by decide)) BK126.out (by decide)) BK131.out (by decide)) (fun k_ hk => ⟨⟨hk.1.1.1.1, ⟨hk.1.1.2, ⟨hk.1.2, hk.2⟩⟩⟩, hk.1.1.1.2⟩))) (fun _ h_ => h_))); (case aB => exact (hb_ HB)); (case aF => exact (fun k_ hk => ⟨Kd.fresh' (Kd.R_lt (rw_ HO_132001.out)) k_ hk, Kd.freshB (g := gb115) (o := .cells #[.int .i64 a0_0, .slice A0_1 l0_1.length c0_1] 58 (0, 0)) (bw_ BK115.out) k_ hk, Kd.freshB (g := gb126) (o := .cells #[.int .i64 t122, .slice Ao30 t123.length co30] 58 (0, 0)) (bw_ BK126.out) k_ hk, Kd.freshB (g := gb131) (o := .cells #[.int .i64 t127, .slice Ao38 t128.length co38] 58 (0, 0)) (bw_ BK131.out) k_ hk⟩)); (case aO => exact (by (with_reducible repeat (first | apply Kd.S_alloc | apply Kd.S_drewN | apply Kd.S_drew)); exact Kd.S_mono HO_5.out (fun k_ hk => ⟨⟨hk.2.1, ⟨hk.2.2.1, ⟨hk.2.2.2.1, hk.2.2.2.2⟩⟩⟩, fun e_ => hk.1 e_⟩))); (case aS => exact (below_size (hb_ HB))); (case aL => have := LMc88.out; omega); intro v137 w94 ho hb hg hat; rw [← Ny136.out] at ho; have n0_ := Aside0.mk (Kd.R_over' (rw_ HO_132001.out) (Kd.S_typed (by (with_reducible repeat (first | apply Kd.S_alloc | apply Kd.S_drewN | apply Kd.S_drew)); exact HO_5.out)) (by decide) hg); have n1_ := Aside0.mk (blk_grown (g := gb114) (o := .cells #[.int .i64 a0_0, .slice A0_1 l0_1.length c0_1] 57 (0, 0)) (bw_ BK114.out) hg (Kd.S_ne HO_5.out BK114.out (by decide))); have n2_ := Aside0.mk (blk_grown (g := gb115) (o := .cells #[.int .i64 a0_0, .slice A0_1 l0_1.length c0_1] 58 (0, 0)) (bw_ BK115.out) hg (Kd.S_away HO_5.out (fun _ hk => hk.2.2.1))); have n3_ := Aside0.mk (blk_grown (g := gb126) (o := .cells #[.int .i64 t122, .slice Ao30 t123.length co30] 58 (0, 0)) (bw_ BK126.out) hg (Kd.S_away HO_5.out (fun _ hk => hk.2.2.2.1))); have n4_ := Aside0.mk (blk_grown (g := gb131) (o := .cells #[.int .i64 t127, .slice Ao38 t128.length co38] 58 (0, 0)) (bw_ BK131.out) hg (Kd.S_away HO_5.out (fun _ hk => hk.2.2.2.2))); have n5_ := Aside0.mk (hb); have n6_ := Aside0.mk (ho); clear HO_132001; clear BK114; clear BK115; clear BK126; clear BK131; clear HB; clear HO_5; clear HO_127001; have HO_132001 := n0_; have BK114 := n1_; have BK115 := n2_; have BK126 := n3_; have BK131 := n4_; have HB := n5_; have HO138 := n6_; clear n0_ n1_ n2_ n3_ n4_ n5_ n6_; clear ho hb hg hat))
              repeat (go_quiet (first | ((with_reducible refine gate_builtin (b := .append) (xs := #[.tmp 92, .tmp 94]) rfl ?_); (try (refine gate_guard (by rfl) ?_; dsimp only)); at_builtin; refine Kd.S_append k58 (w0 := w) w.heap.size rfl (.tmp 92) (.tmp 94) 67 58 (.agg #[(.int .i64 0), (.slice none 0 0)]) 32 rfl Try.underlying67 info58 rfl (by decide) (by omega) (.slice Ao89 x5_2.length co89) x5_2 (⟨t122, t123⟩ : S58) [.int .i64 t122, .slice Ao30 t123.length co30] (fun k_ => some k_ ≠ (.slice Ao38 t128.length co38 : Value).ownBlock ∧ k_ ≠ gb115 ∧ k_ ≠ gb126 ∧ k_ ≠ gb131) (fun k_ => some k_ = (.slice Ao30 t123.length co30 : Value).ownBlock) rfl rfl ?aP (fun k_ hk_ => ((Kd.R_mono (ok' := fun k_ => ((fun k_ => some k_ ≠ (.slice Ao38 t128.length co38 : Value).ownBlock ∧ k_ ≠ gb115 ∧ k_ ≠ gb126 ∧ k_ ≠ gb131)) k_ ∧ some k_ ≠ (.slice Ao89 x5_2.length co89 : Value).ownBlock) (Kd.R_types (Kd.R_types (Kd.R_types (Kd.R_apart' (HO_127001.out) (Kd.S_typed HO_5.out) (by decide)) BK115.out (by decide)) BK126.out (by decide)) BK131.out (by decide)) (fun k_ hk => ⟨⟨hk.1.1.1.1, ⟨hk.1.1.2, ⟨hk.1.2, hk.2⟩⟩⟩, hk.1.1.1.2⟩))).1 k_ hk_.symm) ?aF ?aO ?aB ?aS ?aL ?_; (case aP => exact k58_mkM _ _ _ (⟨t122, t123⟩ : S58) (Kd.R_mono (Kd.R_tight rfl (Kd.R_mono (ok' := fun k_ => ((fun k_ => some k_ ≠ (.slice Ao38 t128.length co38 : Value).ownBlock ∧ k_ ≠ gb115 ∧ k_ ≠ gb126 ∧ k_ ≠ gb131)) k_ ∧ some k_ ≠ (.slice Ao89 x5_2.length co89 : Value).ownBlock) (Kd.R_types (Kd.R_types (Kd.R_types (Kd.R_apart' (HO_127001.out) (Kd.S_typed HO_5.out) (by decide)) BK115.out (by decide)) BK126.out (by decide)) BK131.out (by decide)) (fun k_ hk => ⟨⟨hk.1.1.1.1, ⟨hk.1.1.2, ⟨hk.1.2, hk.2⟩⟩⟩, hk.1.1.1.2⟩))) (fun _ h_ => h_))); (case aB => exact (hb_ HB)); (case aF => exact (fun k_ hk => ⟨Kd.fresh' (Kd.R_lt (rw_ HO_132001.out)) k_ hk, Kd.freshB (g := gb115) (o := .cells #[.int .i64 a0_0, .slice A0_1 l0_1.length c0_1] 58 (0, 0)) (bw_ BK115.out) k_ hk, Kd.freshB (g := gb126) (o := .cells #[.int .i64 t122, .slice Ao30 t123.length co30] 58 (0, 0)) (bw_ BK126.out) k_ hk, Kd.freshB (g := gb131) (o := .cells #[.int .i64 t127, .slice Ao38 t128.length co38] 58 (0, 0)) (bw_ BK131.out) k_ hk⟩)); (case aO => exact (by (with_reducible repeat (first | apply Kd.S_alloc | apply Kd.S_drewN | apply Kd.S_drew)); exact Kd.S_mono HO_5.out (fun k_ hk => ⟨⟨hk.2.1, ⟨hk.2.2.1, ⟨hk.2.2.2.1, hk.2.2.2.2⟩⟩⟩, fun e_ => hk.1 e_⟩))); (case aS => exact (below_size (hb_ HB))); (case aL => have := LMc88.out; omega); intro v137 w94 ho hb hg hat; rw [← Ny136.out] at ho; have n0_ := Aside0.mk (Kd.R_over' (rw_ HO_132001.out) (Kd.S_typed (by (with_reducible repeat (first | apply Kd.S_alloc | apply Kd.S_drewN | apply Kd.S_drew)); exact HO_5.out)) (by decide) hg); have n1_ := Aside0.mk (blk_grown (g := gb114) (o := .cells #[.int .i64 a0_0, .slice A0_1 l0_1.length c0_1] 57 (0, 0)) (bw_ BK114.out) hg (Kd.S_ne HO_5.out BK114.out (by decide))); have n2_ := Aside0.mk (blk_grown (g := gb115) (o := .cells #[.int .i64 a0_0, .slice A0_1 l0_1.length c0_1] 58 (0, 0)) (bw_ BK115.out) hg (Kd.S_away HO_5.out (fun _ hk => hk.2.2.1))); have n3_ := Aside0.mk (blk_grown (g := gb126) (o := .cells #[.int .i64 t122, .slice Ao30 t123.length co30] 58 (0, 0)) (bw_ BK126.out) hg (Kd.S_away HO_5.out (fun _ hk => hk.2.2.2.1))); have n4_ := Aside0.mk (blk_grown (g := gb131) (o := .cells #[.int .i64 t127, .slice Ao38 t128.length co38] 58 (0, 0)) (bw_ BK131.out) hg (Kd.S_away HO_5.out (fun _ hk => hk.2.2.2.2))); have n5_ := Aside0.mk (hb); have n6_ := Aside0.mk (ho); clear HO_132001; clear BK114; clear BK115; clear BK126; clear BK131; clear HB; clear HO_5; clear HO_127001; have HO_132001 := n0_; have BK114 := n1_; have BK115 := n2_; have BK126 := n3_; have BK131 := n4_; have HB := n5_; have HO138 := n6_; clear n0_ n1_ n2_ n3_ n4_ n5_ n6_; clear ho hb hg hat)); try go_wp2_with (first | ((with_reducible refine gate_builtin (b := .append) (xs := #[.tmp 92, .tmp 94]) rfl ?_); (try (refine gate_guard (by rfl) ?_; dsimp only)); at_builtin; refine Kd.S_append k58 (w0 := w) w.heap.size rfl (.tmp 92) (.tmp 94) 67 58 (.agg #[(.int .i64 0), (.slice none 0 0)]) 32 rfl Try.underlying67 info58 rfl (by decide) (by omega) (.slice Ao89 x5_2.length co89) x5_2 (⟨t122, t123⟩ : S58) [.int .i64 t122, .slice Ao30 t123.length co30] (fun k_ => some k_ ≠ (.slice Ao38 t128.length co38 : Value).ownBlock ∧ k_ ≠ gb115 ∧ k_ ≠ gb126 ∧ k_ ≠ gb131) (fun k_ => some k_ = (.slice Ao30 t123.length co30 : Value).ownBlock) rfl rfl ?aP (fun k_ hk_ => ((Kd.R_mono (ok' := fun k_ => ((fun k_ => some k_ ≠ (.slice Ao38 t128.length co38 : Value).ownBlock ∧ k_ ≠ gb115 ∧ k_ ≠ gb126 ∧ k_ ≠ gb131)) k_ ∧ some k_ ≠ (.slice Ao89 x5_2.length co89 : Value).ownBlock) (Kd.R_types (Kd.R_types (Kd.R_types (Kd.R_apart' (HO_127001.out) (Kd.S_typed HO_5.out) (by decide)) BK115.out (by decide)) BK126.out (by decide)) BK131.out (by decide)) (fun k_ hk => ⟨⟨hk.1.1.1.1, ⟨hk.1.1.2, ⟨hk.1.2, hk.2⟩⟩⟩, hk.1.1.1.2⟩))).1 k_ hk_.symm) ?aF ?aO ?aB ?aS ?aL ?_; (case aP => exact k58_mkM _ _ _ (⟨t122, t123⟩ : S58) (Kd.R_mono (Kd.R_tight rfl (Kd.R_mono (ok' := fun k_ => ((fun k_ => some k_ ≠ (.slice Ao38 t128.length co38 : Value).ownBlock ∧ k_ ≠ gb115 ∧ k_ ≠ gb126 ∧ k_ ≠ gb131)) k_ ∧ some k_ ≠ (.slice Ao89 x5_2.length co89 : Value).ownBlock) (Kd.R_types (Kd.R_types (Kd.R_types (Kd.R_apart' (HO_127001.out) (Kd.S_typed HO_5.out) (by decide)) BK115.out (by decide)) BK126.out (by decide)) BK131.out (by decide)) (fun k_ hk => ⟨⟨hk.1.1.1.1, ⟨hk.1.1.2, ⟨hk.1.2, hk.2⟩⟩⟩, hk.1.1.1.2⟩))) (fun _ h_ => h_))); (case aB => exact (hb_ HB)); (case aF => exact (fun k_ hk => ⟨Kd.fresh' (Kd.R_lt (rw_ HO_132001.out)) k_ hk, Kd.freshB (g := gb115) (o := .cells #[.int .i64 a0_0, .slice A0_1 l0_1.length c0_1] 58 (0, 0)) (bw_ BK115.out) k_ hk, Kd.freshB (g := gb126) (o := .cells #[.int .i64 t122, .slice Ao30 t123.length co30] 58 (0, 0)) (bw_ BK126.out) k_ hk, Kd.freshB (g := gb131) (o := .cells #[.int .i64 t127, .slice Ao38 t128.length co38] 58 (0, 0)) (bw_ BK131.out) k_ hk⟩)); (case aO => exact (by (with_reducible repeat (first | apply Kd.S_alloc | apply Kd.S_drewN | apply Kd.S_drew)); exact Kd.S_mono HO_5.out (fun k_ hk => ⟨⟨hk.2.1, ⟨hk.2.2.1, ⟨hk.2.2.2.1, hk.2.2.2.2⟩⟩⟩, fun e_ => hk.1 e_⟩))); (case aS => exact (below_size (hb_ HB))); (case aL => have := LMc88.out; omega); intro v137 w94 ho hb hg hat; rw [← Ny136.out] at ho; have n0_ := Aside0.mk (Kd.R_over' (rw_ HO_132001.out) (Kd.S_typed (by (with_reducible repeat (first | apply Kd.S_alloc | apply Kd.S_drewN | apply Kd.S_drew)); exact HO_5.out)) (by decide) hg); have n1_ := Aside0.mk (blk_grown (g := gb114) (o := .cells #[.int .i64 a0_0, .slice A0_1 l0_1.length c0_1] 57 (0, 0)) (bw_ BK114.out) hg (Kd.S_ne HO_5.out BK114.out (by decide))); have n2_ := Aside0.mk (blk_grown (g := gb115) (o := .cells #[.int .i64 a0_0, .slice A0_1 l0_1.length c0_1] 58 (0, 0)) (bw_ BK115.out) hg (Kd.S_away HO_5.out (fun _ hk => hk.2.2.1))); have n3_ := Aside0.mk (blk_grown (g := gb126) (o := .cells #[.int .i64 t122, .slice Ao30 t123.length co30] 58 (0, 0)) (bw_ BK126.out) hg (Kd.S_away HO_5.out (fun _ hk => hk.2.2.2.1))); have n4_ := Aside0.mk (blk_grown (g := gb131) (o := .cells #[.int .i64 t127, .slice Ao38 t128.length co38] 58 (0, 0)) (bw_ BK131.out) hg (Kd.S_away HO_5.out (fun _ hk => hk.2.2.2.2))); have n5_ := Aside0.mk (hb); have n6_ := Aside0.mk (ho); clear HO_132001; clear BK114; clear BK115; clear BK126; clear BK131; clear HB; clear HO_5; clear HO_127001; have HO_132001 := n0_; have BK114 := n1_; have BK115 := n2_; have BK126 := n3_; have BK131 := n4_; have HB := n5_; have HO138 := n6_; clear n0_ n1_ n2_ n3_ n4_ n5_ n6_; clear ho hb hg hat)))
              go_roundg k4
              case measure => have := HJ2.out; have := HK2.out; have := HJ21.out; have := HK4.out; omega
              case rel => exact ⟨(y136), (wrap64 (x6_2 + 1)), es_, H', ⟨by have := HJ2.out; have := HK2.out; have := HJ21.out; have := HK4.out; omega⟩, ⟨by (with_reducible repeat (first | apply Kd.S_alloc | apply Kd.S_drewN | apply Kd.S_drew)); exact Kd.S_mono HO138.out (fun _ hk => hk.2.1)⟩, ⟨bw_ BK114.out⟩, ⟨bw_ BK115.out⟩, ⟨hb_ HB⟩⟩
             ·rw [if_neg c88] at H
              exact absurd H (by simp)
      ·rw [if_neg c19] at H
       have c19b0 : decide (x6_2 < t116) = false := decide_eq_false c19
       clear c19
       obtain ⟨ji95, hji95⟩ : ∃ j_ : Int, (wrap64 (t116 - 1)) = j_ := ⟨_, rfl⟩
       replace H : (if 0 ≤ (ji95) then (if (ji95) < (x5_2.length : Int) then (if ((rd_T58 x5_2 (ji95)).f0) = a0_0 then ((calamusref01_Same.f k2 ((rd_T58 x5_2 (ji95)).f1) l0_1).bind fun t120 => (if t120 = true then ((calamuslaw32_lives.f).bind fun t121 => (some t121)) else (some false))) else (some false)) else (none)) else (none)) = some r := by first | (rw [hji95] at H; exact H) | (simp only [hji95] at H ⊢; exact H)
       have hji95w : (IntKind.i64.wrap (t116 - 1)) = ji95 := (i64_w _).trans hji95
       try (have hji95x := hji95; simp only [ByteArray.size_extract, Nat.min_self] at hji95x)
       by_cases c96 : 0 ≤ (ji95)
       ·rw [if_pos c96] at H
        have c96b0 : decide (0 ≤ (ji95)) = true := decide_eq_true c96
        clear c96
        by_cases c97 : (ji95) < (x5_2.length : Int)
        ·rw [if_pos c97] at H
         have c97b0 : decide ((ji95) < (x5_2.length : Int)) = true := decide_eq_true c97
         clear c97
         by_cases c98 : ((rd_T58 x5_2 (ji95)).f0) = a0_0
         ·rw [if_pos c98] at H
          have c98b0 : (((rd_T58 x5_2 (ji95)).f0) == a0_0) = true := beq_iff_eq.mpr c98
          have c98b1 : (((rd_T58 x5_2 (ji95)).f0) != a0_0) = false := bne_eq_false_iff_eq.mpr c98
          clear c98
          replace H := Option.bind_eq_some_iff.mp H
          obtain ⟨t120, A990, H⟩ := H
          replace H : (if t120 = true then ((calamuslaw32_lives.f).bind fun t121 => (some t121)) else (some false)) = some r := H
          have A99 := Aside0.mk A990
          clear A990
          by_cases c100 : t120 = true
          ·subst c100
           have H1 : ((calamuslaw32_lives.f).bind fun t121 => (some t121)) = some r := by rw [if_pos rfl] at H; exact H
           clear H
           have H := H1
           clear H1
           replace H := Option.bind_eq_some_iff.mp H
           obtain ⟨t121, A1010, H⟩ := H
           replace H : (some t121) = some r := H
           have A101 := Aside0.mk A1010
           clear A1010
           obtain rfl := Option.some.inj H
           obtain ⟨Ao102, co102, eo102⟩ := Kd.S_slice HO_5.out
           subst eo102
           have p118 : 0 ≤ ((ji95) : Int) := of_decide_eq_true as_
           have q118 : (ji95) < (x5_2.length : Int) := of_decide_eq_true as_
           obtain ⟨ad118, A118_1, c118_1, e118, hx118_0, hx118_1, hl118_1, hi118_1⟩ := at_T58 (Kd.S_reads' HO_5.out).2.2 (ji95) p118 q118
           cases e118
           obtain ⟨ce118, hce118, hMe118, hcc118⟩ := Kd.S_get HO_5.out z58 (ji95) p118 (by first | exact q118 | exact of_decide_eq_true as_ | (have e_ := (Kd.S_reads' HO_5.out).1; omega))
           obtain ⟨ve118_1, rfl, ge118_1⟩ := k58_openM hMe118
           have hv118_1 := hcc118 1 _ rfl
           rw [add_field _ _ 1 (by omega)] at hv118_1
           replace hv118_1 := Option.some.inj (hv118_1.symm.trans hx118_1)
           rw [hv118_1] at ge118_1
           have HL118_1 := Aside0.mk (show Kd.R (Kd.int .i64) 3 _ _ _ _ ((rd_T58 x5_2 (ji95)).f1) from ge118_1)
           clear hv118_1 ge118_1
           clear hcc118 hce118
           have HR118_1 := Aside0.mk hi118_1
           have HC118_1 := Aside0.mk hl118_1
           clear hi118_1 hl118_1
           replace p118 := eq_true p118
           replace q118 := eq_true q118
           go_wp2_with (first | ((with_reducible refine gate_dst (N := 10) rfl ?_); (try (refine gate_guard (by rfl) ?_; dsimp only)); refine be_ (N := 10) (cs := #[.int .i64 0, .slice none 0 0]) (t := 58) (h := ?_); intro gb119 hg w103 hbox hb; have BK119 := Aside0.mk (hbox); have GW119 := gw_ HB hg; have GE119 := gw_ HB hg; have NB114_119 := ne_ BK114 hg; have NB119_114 := en_ BK114 hg; have NB115_119 := ne_ BK115 hg; have NB119_115 := en_ BK115 hg; replace HO_5 := Aside0.mk (Kd.S_below (Kd.S_elderB (by (with_reducible repeat (first | apply Kd.S_alloc | apply Kd.S_drewN | apply Kd.S_drew)); exact HO_5.out) gb119 (Nat.le_of_eq hg.symm)) hb); replace HL118_1 := Aside0.mk (Kd.R_below (by (with_reducible repeat (first | apply Kd.R_alloc | apply Kd.R_drewN | apply Kd.R_drew)); exact HL118_1.out) hb); replace BK114 := bb_ BK114 hb; replace BK115 := bb_ BK115 hb; replace HR118_1 := Aside0.mk (Kd.C_below (by repeat (first | (with_reducible exact HR118_1.out) | (with_reducible refine Kd.C_alloc ?_ _) | (with_reducible refine Kd.C_drewN ?_ _) | (with_reducible refine Kd.C_drew ?_) | exact HR118_1.out)) hb); replace HB := bs_ HB hb; clear hb hbox hg; have hnb104 := NB119_114.out; have hnc104 := NB114_119.out; have hnb105 := NB119_115.out; have hnc105 := NB115_119.out; obtain ⟨hcz106_0, hcz106_1, hfz106_0, hfz106_1⟩ := bc2_ BK119; have hnb107 := NB114_115.out; have hnc107 := NB115_114.out; obtain ⟨hcz108_0, hcz108_1, hfz108_0, hfz108_1⟩ := bc2_ BK114) | (go_at_call 26; (with_reducible refine (calamusref01_Same.calls k2 _ _ ((rd_T58 x5_2 (ji95)).f1) _ _ l0_1 true _ ?side1 ?side2 ?side3 ?side4 A99.out).mono ?_); (case side1 => repeat (first | exact ((Kd.R_reads' (by (with_reducible repeat (first | apply Kd.R_alloc | apply Kd.R_drewN | apply Kd.R_drew)); exact (Kd.R_mono (rf_ (Kd.R_types HL118_1.out BK119.out (by decide)) (fun _ hk => hk.2)) (fun _ h_ => h_.1)))).2.2) | (with_reducible refine Kd.C_alloc ?_ _) | (with_reducible refine Kd.C_drewN ?_ _) | (with_reducible refine Kd.C_drew ?_))); (case side2 => exact HC118_1.out); (case side3 => exact Kd.C_below HR0_1.out (hb_ HB)); (case side4 => exact HC0_1.out); rintro e w' ⟨rfl, ⟨nd, rfl⟩⟩; (try first | exact ⟨rfl, _, World.drewN_drewN _ _ _⟩ | exact ⟨rfl, _, Eq.trans (World.drewN_drewN _ _ _) (congrArg (World.drewN _) (Nat.add_assoc _ _ _))⟩)) | (go_at_call 50; (with_reducible refine (calamuslaw32_lives.calls  t121 _ A101.out).mono ?_); rintro e w109 ⟨rfl, hb⟩; replace HO_5 := Aside0.mk (Kd.S_below (by (with_reducible repeat (first | apply Kd.S_alloc | apply Kd.S_drewN | apply Kd.S_drew)); exact (Kd.S_mono (Kd.S_far (p := ⟨gb119, 1, none⟩) (Kd.S_far (p := ⟨gb119, 0, none⟩) (Kd.S_mono HO_5.out (fun k_ hk => (⟨hk, hk.2⟩ : _ ∧ k_ ≠ gb119))) (fun _ hk => hk.2) (.int .i64 ((rd_T58 x5_2 (ji95)).f0))) (fun _ hk => hk.2) (.slice A118_1 ((rd_T58 x5_2 (ji95)).f1).length c118_1)) (fun _ h_ => h_.1))) hb); replace BK114 := Aside0.mk (blk_below (g := gb114) (o := .cells #[.int .i64 a0_0, .slice A0_1 l0_1.length c0_1] 57 (0, 0)) (bp_ BK114.out) hb); replace BK115 := Aside0.mk (blk_below (g := gb115) (o := .cells #[.int .i64 a0_0, .slice A0_1 l0_1.length c0_1] 58 (0, 0)) (bp_ BK115.out) hb); replace HR118_1 := Aside0.mk (Kd.C_below ((Kd.R_reads' (by (with_reducible repeat (first | apply Kd.R_alloc | apply Kd.R_drewN | apply Kd.R_drew)); exact (Kd.R_mono (rf_ (Kd.R_types HL118_1.out BK119.out (by decide)) (fun _ hk => hk.2)) (fun _ h_ => h_.1)))).2.2) hb); replace HB := bs_ HB hb; replace HL118_1 := Aside0.mk (Kd.R_below (by (with_reducible repeat (first | apply Kd.R_alloc | apply Kd.R_drewN | apply Kd.R_drew)); exact (Kd.R_mono (rf_ (Kd.R_types HL118_1.out BK119.out (by decide)) (fun _ hk => hk.2)) (fun _ h_ => h_.1))) hb); replace BK119 := Aside0.mk (blk_below (g := gb119) (o := .cells #[.int .i64 ((rd_T58 x5_2 (ji95)).f0), .slice A118_1 ((rd_T58 x5_2 (ji95)).f1).length c118_1] 58 (0, 0)) (bp_ BK119.out) hb); (try clear hb); (try clear hb2); (try clear hk); (try clear hi)))
           repeat (go_quiet (first | ((with_reducible refine gate_dst (N := 10) rfl ?_); (try (refine gate_guard (by rfl) ?_; dsimp only)); refine be_ (N := 10) (cs := #[.int .i64 0, .slice none 0 0]) (t := 58) (h := ?_); intro gb119 hg w103 hbox hb; have BK119 := Aside0.mk (hbox); have GW119 := gw_ HB hg; have GE119 := gw_ HB hg; have NB114_119 := ne_ BK114 hg; have NB119_114 := en_ BK114 hg; have NB115_119 := ne_ BK115 hg; have NB119_115 := en_ BK115 hg; replace HO_5 := Aside0.mk (Kd.S_below (Kd.S_elderB (by (with_reducible repeat (first | apply Kd.S_alloc | apply Kd.S_drewN | apply Kd.S_drew)); exact HO_5.out) gb119 (Nat.le_of_eq hg.symm)) hb); replace HL118_1 := Aside0.mk (Kd.R_below (by (with_reducible repeat (first | apply Kd.R_alloc | apply Kd.R_drewN | apply Kd.R_drew)); exact HL118_1.out) hb); replace BK114 := bb_ BK114 hb; replace BK115 := bb_ BK115 hb; replace HR118_1 := Aside0.mk (Kd.C_below (by repeat (first | (with_reducible exact HR118_1.out) | (with_reducible refine Kd.C_alloc ?_ _) | (with_reducible refine Kd.C_drewN ?_ _) | (with_reducible refine Kd.C_drew ?_) | exact HR118_1.out)) hb); replace HB := bs_ HB hb; clear hb hbox hg; have hnb104 := NB119_114.out; have hnc104 := NB114_119.out; have hnb105 := NB119_115.out; have hnc105 := NB115_119.out; obtain ⟨hcz106_0, hcz106_1, hfz106_0, hfz106_1⟩ := bc2_ BK119; have hnb107 := NB114_115.out; have hnc107 := NB115_114.out; obtain ⟨hcz108_0, hcz108_1, hfz108_0, hfz108_1⟩ := bc2_ BK114) | (go_at_call 26; (with_reducible refine (calamusref01_Same.calls k2 _ _ ((rd_T58 x5_2 (ji95)).f1) _ _ l0_1 true _ ?side1 ?side2 ?side3 ?side4 A99.out).mono ?_); (case side1 => repeat (first | exact ((Kd.R_reads' (by (with_reducible repeat (first | apply Kd.R_alloc | apply Kd.R_drewN | apply Kd.R_drew)); exact (Kd.R_mono (rf_ (Kd.R_types HL118_1.out BK119.out (by decide)) (fun _ hk => hk.2)) (fun _ h_ => h_.1)))).2.2) | (with_reducible refine Kd.C_alloc ?_ _) | (with_reducible refine Kd.C_drewN ?_ _) | (with_reducible refine Kd.C_drew ?_))); (case side2 => exact HC118_1.out); (case side3 => exact Kd.C_below HR0_1.out (hb_ HB)); (case side4 => exact HC0_1.out); rintro e w' ⟨rfl, ⟨nd, rfl⟩⟩; (try first | exact ⟨rfl, _, World.drewN_drewN _ _ _⟩ | exact ⟨rfl, _, Eq.trans (World.drewN_drewN _ _ _) (congrArg (World.drewN _) (Nat.add_assoc _ _ _))⟩)) | (go_at_call 50; (with_reducible refine (calamuslaw32_lives.calls  t121 _ A101.out).mono ?_); rintro e w109 ⟨rfl, hb⟩; replace HO_5 := Aside0.mk (Kd.S_below (by (with_reducible repeat (first | apply Kd.S_alloc | apply Kd.S_drewN | apply Kd.S_drew)); exact (Kd.S_mono (Kd.S_far (p := ⟨gb119, 1, none⟩) (Kd.S_far (p := ⟨gb119, 0, none⟩) (Kd.S_mono HO_5.out (fun k_ hk => (⟨hk, hk.2⟩ : _ ∧ k_ ≠ gb119))) (fun _ hk => hk.2) (.int .i64 ((rd_T58 x5_2 (ji95)).f0))) (fun _ hk => hk.2) (.slice A118_1 ((rd_T58 x5_2 (ji95)).f1).length c118_1)) (fun _ h_ => h_.1))) hb); replace BK114 := Aside0.mk (blk_below (g := gb114) (o := .cells #[.int .i64 a0_0, .slice A0_1 l0_1.length c0_1] 57 (0, 0)) (bp_ BK114.out) hb); replace BK115 := Aside0.mk (blk_below (g := gb115) (o := .cells #[.int .i64 a0_0, .slice A0_1 l0_1.length c0_1] 58 (0, 0)) (bp_ BK115.out) hb); replace HR118_1 := Aside0.mk (Kd.C_below ((Kd.R_reads' (by (with_reducible repeat (first | apply Kd.R_alloc | apply Kd.R_drewN | apply Kd.R_drew)); exact (Kd.R_mono (rf_ (Kd.R_types HL118_1.out BK119.out (by decide)) (fun _ hk => hk.2)) (fun _ h_ => h_.1)))).2.2) hb); replace HB := bs_ HB hb; replace HL118_1 := Aside0.mk (Kd.R_below (by (with_reducible repeat (first | apply Kd.R_alloc | apply Kd.R_drewN | apply Kd.R_drew)); exact (Kd.R_mono (rf_ (Kd.R_types HL118_1.out BK119.out (by decide)) (fun _ hk => hk.2)) (fun _ h_ => h_.1))) hb); replace BK119 := Aside0.mk (blk_below (g := gb119) (o := .cells #[.int .i64 ((rd_T58 x5_2 (ji95)).f0), .slice A118_1 ((rd_T58 x5_2 (ji95)).f1).length c118_1] 58 (0, 0)) (bp_ BK119.out) hb); (try clear hb); (try clear hb2); (try clear hk); (try clear hi))); try go_wp2_with (first | ((with_reducible refine gate_dst (N := 10) rfl ?_); (try (refine gate_guard (by rfl) ?_; dsimp only)); refine be_ (N := 10) (cs := #[.int .i64 0, .slice none 0 0]) (t := 58) (h := ?_); intro gb119 hg w103 hbox hb; have BK119 := Aside0.mk (hbox); have GW119 := gw_ HB hg; have GE119 := gw_ HB hg; have NB114_119 := ne_ BK114 hg; have NB119_114 := en_ BK114 hg; have NB115_119 := ne_ BK115 hg; have NB119_115 := en_ BK115 hg; replace HO_5 := Aside0.mk (Kd.S_below (Kd.S_elderB (by (with_reducible repeat (first | apply Kd.S_alloc | apply Kd.S_drewN | apply Kd.S_drew)); exact HO_5.out) gb119 (Nat.le_of_eq hg.symm)) hb); replace HL118_1 := Aside0.mk (Kd.R_below (by (with_reducible repeat (first | apply Kd.R_alloc | apply Kd.R_drewN | apply Kd.R_drew)); exact HL118_1.out) hb); replace BK114 := bb_ BK114 hb; replace BK115 := bb_ BK115 hb; replace HR118_1 := Aside0.mk (Kd.C_below (by repeat (first | (with_reducible exact HR118_1.out) | (with_reducible refine Kd.C_alloc ?_ _) | (with_reducible refine Kd.C_drewN ?_ _) | (with_reducible refine Kd.C_drew ?_) | exact HR118_1.out)) hb); replace HB := bs_ HB hb; clear hb hbox hg; have hnb104 := NB119_114.out; have hnc104 := NB114_119.out; have hnb105 := NB119_115.out; have hnc105 := NB115_119.out; obtain ⟨hcz106_0, hcz106_1, hfz106_0, hfz106_1⟩ := bc2_ BK119; have hnb107 := NB114_115.out; have hnc107 := NB115_114.out; obtain ⟨hcz108_0, hcz108_1, hfz108_0, hfz108_1⟩ := bc2_ BK114) | (go_at_call 26; (with_reducible refine (calamusref01_Same.calls k2 _ _ ((rd_T58 x5_2 (ji95)).f1) _ _ l0_1 true _ ?side1 ?side2 ?side3 ?side4 A99.out).mono ?_); (case side1 => repeat (first | exact ((Kd.R_reads' (by (with_reducible repeat (first | apply Kd.R_alloc | apply Kd.R_drewN | apply Kd.R_drew)); exact (Kd.R_mono (rf_ (Kd.R_types HL118_1.out BK119.out (by decide)) (fun _ hk => hk.2)) (fun _ h_ => h_.1)))).2.2) | (with_reducible refine Kd.C_alloc ?_ _) | (with_reducible refine Kd.C_drewN ?_ _) | (with_reducible refine Kd.C_drew ?_))); (case side2 => exact HC118_1.out); (case side3 => exact Kd.C_below HR0_1.out (hb_ HB)); (case side4 => exact HC0_1.out); rintro e w' ⟨rfl, ⟨nd, rfl⟩⟩; (try first | exact ⟨rfl, _, World.drewN_drewN _ _ _⟩ | exact ⟨rfl, _, Eq.trans (World.drewN_drewN _ _ _) (congrArg (World.drewN _) (Nat.add_assoc _ _ _))⟩)) | (go_at_call 50; (with_reducible refine (calamuslaw32_lives.calls  t121 _ A101.out).mono ?_); rintro e w109 ⟨rfl, hb⟩; replace HO_5 := Aside0.mk (Kd.S_below (by (with_reducible repeat (first | apply Kd.S_alloc | apply Kd.S_drewN | apply Kd.S_drew)); exact (Kd.S_mono (Kd.S_far (p := ⟨gb119, 1, none⟩) (Kd.S_far (p := ⟨gb119, 0, none⟩) (Kd.S_mono HO_5.out (fun k_ hk => (⟨hk, hk.2⟩ : _ ∧ k_ ≠ gb119))) (fun _ hk => hk.2) (.int .i64 ((rd_T58 x5_2 (ji95)).f0))) (fun _ hk => hk.2) (.slice A118_1 ((rd_T58 x5_2 (ji95)).f1).length c118_1)) (fun _ h_ => h_.1))) hb); replace BK114 := Aside0.mk (blk_below (g := gb114) (o := .cells #[.int .i64 a0_0, .slice A0_1 l0_1.length c0_1] 57 (0, 0)) (bp_ BK114.out) hb); replace BK115 := Aside0.mk (blk_below (g := gb115) (o := .cells #[.int .i64 a0_0, .slice A0_1 l0_1.length c0_1] 58 (0, 0)) (bp_ BK115.out) hb); replace HR118_1 := Aside0.mk (Kd.C_below ((Kd.R_reads' (by (with_reducible repeat (first | apply Kd.R_alloc | apply Kd.R_drewN | apply Kd.R_drew)); exact (Kd.R_mono (rf_ (Kd.R_types HL118_1.out BK119.out (by decide)) (fun _ hk => hk.2)) (fun _ h_ => h_.1)))).2.2) hb); replace HB := bs_ HB hb; replace HL118_1 := Aside0.mk (Kd.R_below (by (with_reducible repeat (first | apply Kd.R_alloc | apply Kd.R_drewN | apply Kd.R_drew)); exact (Kd.R_mono (rf_ (Kd.R_types HL118_1.out BK119.out (by decide)) (fun _ hk => hk.2)) (fun _ h_ => h_.1))) hb); replace BK119 := Aside0.mk (blk_below (g := gb119) (o := .cells #[.int .i64 ((rd_T58 x5_2 (ji95)).f0), .slice A118_1 ((rd_T58 x5_2 (ji95)).f1).length c118_1] 58 (0, 0)) (bp_ BK119.out) hb); (try clear hb); (try clear hb2); (try clear hk); (try clear hi))))
           go_ret
           exact ⟨by first | rfl | (simp [errW_none, errW_some] <;> rfl) | (simp only [← hji95]; first | rfl | (simp [errW_none, errW_some] <;> rfl)) | (simp [*, errW_none, errW_some] <;> rfl), hb_ HB⟩
          ·replace c100 := Bool.eq_false_iff.mpr c100
           subst c100
           have H1 : (some false) = some r := by rw [if_neg (show ¬ (false = true) by decide)] at H; exact H
           clear H
           have H := H1
           clear H1
           exact nf_ H hr_
         ·rw [if_neg c98] at H
          have c98b0 : (((rd_T58 x5_2 (ji95)).f0) == a0_0) = false := beq_eq_false_iff_ne.mpr c98
          have c98b1 : (((rd_T58 x5_2 (ji95)).f0) != a0_0) = true := bne_iff_ne.mpr c98
          exact nf_ H hr_
        ·rw [if_neg c97] at H
         exact absurd H (by simp)
       ·rw [if_neg c96] at H
        exact absurd H (by simp)

end Go.Proofs.Ytjobaaolohemgaa.PFallAll
