/- Of the law calamus/calamuslaw11.TreeKeeps: each function as a plain Lean function, with a proof that the call comes to it; the row. By wip/tpl/own_print.py. Conditions: none but the row's own. -/
import Derived.Test.YtkiokimpblimcaaOTreeKeepsx0
import Derived.Test.YtkiokimpblimcaaOTreeKeepsx4
import Derived.Test.YtkiokimpblimcaaOTreeKeepsx7
import Derived.Test.YtkiokimpblimcaaOTreeKeepsx9
import Derived.Test.YtkiokimpblimcaaOTreeKeepsx10
namespace Go.Proofs.Ytkiokimpblimcaa.PTreeKeeps
open Go.RowKit Go.Proofs.YtkiokimpblimcaaW.PrintWords Go.Proofs.YtkiokimpblimcaaW.PrintLast Go.Proofs.YtkiokimpblimcaaW.PrintMore
attribute [local go_sem] max2_int min2_int max_two min_two max_three min_three max_four min_four   -- for this text's walks alone
set_option linter.unusedVariables false
set_option linter.unusedSimpArgs false

/-! ### calamuslaw11_TreeKeeps: function 13 -/
mutual
def calamuslaw11_TreeKeeps.j1 : Nat → ByteArray → ByteArray → Int → List (S69) → Int → Option (Bool)
 | 0, _, _, _, _, _ => none
 | k + 1, x1, x2, x7, x302000, x302001 => if (x302000.length : Int) > 60 then (calamuslaw11_TreeKeeps.j2 k x1 x2 true x302000 x302001) else (calamuslaw11_TreeKeeps.j2 k x1 x2 (decide (x7 > 3000)) x302000 x302001)
def calamuslaw11_TreeKeeps.j2 : Nat → ByteArray → ByteArray → Bool → List (S69) → Int → Option (Bool)
 | 0, _, _, _, _, _ => none
 | k + 1, x1, x2, x61, x302000, x302001 => if x61 = true then ((calamuslaw11_lives.f k).bind fun t304 => (some t304)) else ((tree_Texts.f k x302000 x302001 x1).bind fun bt305 => ((change_Diff.f k x1 x2).bind fun bt309 => ((change_Do.f k x1 (([(⟨bt309.1, bt309.2.1, bt309.2.2⟩ : S24)] : List (S24)))).bind fun bt316 => (if bt305.2 = 0 then (calamuslaw11_TreeKeeps.j3 k x1 bt305.1 bt316.1 (bt316.2 != 0) x302000 x302001 bt309.1 bt309.2.1 bt309.2.2) else (calamuslaw11_TreeKeeps.j3 k x1 bt305.1 bt316.1 true x302000 x302001 bt309.1 bt309.2.1 bt309.2.2)))))
def calamuslaw11_TreeKeeps.j3 : Nat → ByteArray → List ByteArray → ByteArray → Bool → List (S69) → Int → Int → ByteArray → ByteArray → Option (Bool)
 | 0, _, _, _, _, _, _, _, _, _ => none
 | k + 1, x1, x9, x12, x84, x302000, x302001, x313000, x313001, x313002 => if x84 = true then ((calamuslaw11_lives.f k).bind fun t318 => (some t318)) else ((tree_Add.f k x302000 x302001 x313000 x313001 x313002 0 0).bind fun bt319 => ((tree_Texts.f k bt319.1 bt319.2.1 x12).bind fun bt325 => (if bt319.2.2 = 0 then (if bt325.2 = 0 then ((tree_Right.f k bt319.1 bt319.2.1).bind fun t329 => (if t329 = true then (if (bt325.1.length : Int) = (wrap64 ((x9.length : Int) + 1)) then (if bt319.2.1 = (x9.length : Int) then (if 0 ≤ bt319.2.1 then (if bt319.2.1 < (bt325.1.length : Int) then (calamuslaw11_TreeKeeps.j4 k x1 x9 bt325.1 ((rdOf ByteArray.empty bt325.1 bt319.2.1).toList != x12.toList) x302000 x302001) else (none)) else (none)) else (calamuslaw11_TreeKeeps.j4 k x1 x9 bt325.1 true x302000 x302001)) else (calamuslaw11_TreeKeeps.j4 k x1 x9 bt325.1 true x302000 x302001)) else (calamuslaw11_TreeKeeps.j4 k x1 x9 bt325.1 true x302000 x302001))) else (calamuslaw11_TreeKeeps.j4 k x1 x9 bt325.1 true x302000 x302001)) else (calamuslaw11_TreeKeeps.j4 k x1 x9 bt325.1 true x302000 x302001))))
def calamuslaw11_TreeKeeps.j4 : Nat → ByteArray → List ByteArray → List ByteArray → Bool → List (S69) → Int → Option (Bool)
 | 0, _, _, _, _, _, _ => none
 | k + 1, x1, x9, x16, x132, x302000, x302001 => if x132 = true then (some false) else (calamuslaw11_TreeKeeps.l1 k x1 x9 x16 0 x302000 x302001)
def calamuslaw11_TreeKeeps.l1 : Nat → ByteArray → List ByteArray → List ByteArray → Int → List (S69) → Int → Option (Bool)
 | 0, _, _, _, _, _, _ => none
 | k + 1, x1, x9, x16, x18, x302000, x302001 => if x18 < (x9.length : Int) then (if 0 ≤ x18 then (if x18 < (x16.length : Int) then (if (rdOf ByteArray.empty x9 x18).toList = (rdOf ByteArray.empty x16 x18).toList then (calamuslaw11_TreeKeeps.l1 k x1 x9 x16 (wrap64 (x18 + 1)) x302000 x302001) else (some false)) else (none)) else (none)) else (if 0 ≤ x302001 then (if x302001 < (x9.length : Int) then (if (rdOf ByteArray.empty x9 x302001).toList = x1.toList then ((calamuslaw11_lives.f k).bind fun t334 => (some t334)) else (some false)) else (none)) else (none))
def calamuslaw11_TreeKeeps.l0 : Nat → ByteArray → ByteArray → Int → Int → List (S69) → Int → Option (Bool)
 | 0, _, _, _, _, _, _ => none
 | k + 1, x1, x2, x7, x8, x302000, x302001 => if x8 < (x302000.length : Int) then (if x8 < 61 then (if 0 ≤ x8 then (calamuslaw11_TreeKeeps.l0 k x1 x2 (wrap64 (x7 + (wrap64 ((((rd_T69 x302000 x8).f4.f1).size : Int) + (((rd_T69 x302000 x8).f4.f2).size : Int))))) (wrap64 (x8 + 1)) x302000 x302001) else (none)) else (calamuslaw11_TreeKeeps.j1 k x1 x2 x7 x302000 x302001)) else (calamuslaw11_TreeKeeps.j1 k x1 x2 x7 x302000 x302001)
end
def calamuslaw11_TreeKeeps.f (k : Nat) (l0_0 : List (S69)) (a0_1 : Int) (a1 : ByteArray) (a2 : ByteArray) : Option (Bool) := calamuslaw11_TreeKeeps.l0 k a1 a2 (wrap64 ((a1.size : Int) + (a2.size : Int))) 0 l0_0 a0_1
theorem calamuslaw11_TreeKeeps.mono_l : ∀ k, (∀ y0 y1 y2 y3 y4, LeO (calamuslaw11_TreeKeeps.j1 k y0 y1 y2 y3 y4) (calamuslaw11_TreeKeeps.j1 (k + 1) y0 y1 y2 y3 y4)) ∧ (∀ y0 y1 y2 y3 y4, LeO (calamuslaw11_TreeKeeps.j2 k y0 y1 y2 y3 y4) (calamuslaw11_TreeKeeps.j2 (k + 1) y0 y1 y2 y3 y4)) ∧ (∀ y0 y1 y2 y3 y4 y5 y6 y7 y8, LeO (calamuslaw11_TreeKeeps.j3 k y0 y1 y2 y3 y4 y5 y6 y7 y8) (calamuslaw11_TreeKeeps.j3 (k + 1) y0 y1 y2 y3 y4 y5 y6 y7 y8)) ∧ (∀ y0 y1 y2 y3 y4 y5, LeO (calamuslaw11_TreeKeeps.j4 k y0 y1 y2 y3 y4 y5) (calamuslaw11_TreeKeeps.j4 (k + 1) y0 y1 y2 y3 y4 y5)) ∧ (∀ y0 y1 y2 y3 y4 y5, LeO (calamuslaw11_TreeKeeps.l1 k y0 y1 y2 y3 y4 y5) (calamuslaw11_TreeKeeps.l1 (k + 1) y0 y1 y2 y3 y4 y5)) ∧ (∀ y0 y1 y2 y3 y4 y5, LeO (calamuslaw11_TreeKeeps.l0 k y0 y1 y2 y3 y4 y5) (calamuslaw11_TreeKeeps.l0 (k + 1) y0 y1 y2 y3 y4 y5))
 | 0 => ⟨fun _ _ _ _ _ r h => by simp [calamuslaw11_TreeKeeps.j1] at h, fun _ _ _ _ _ r h => by simp [calamuslaw11_TreeKeeps.j2] at h, fun _ _ _ _ _ _ _ _ _ r h => by simp [calamuslaw11_TreeKeeps.j3] at h, fun _ _ _ _ _ _ r h => by simp [calamuslaw11_TreeKeeps.j4] at h, fun _ _ _ _ _ _ r h => by simp [calamuslaw11_TreeKeeps.l1] at h, fun _ _ _ _ _ _ r h => by simp [calamuslaw11_TreeKeeps.l0] at h⟩
 | k + 1 => by
  obtain ⟨ih0, ih1, ih2, ih3, ih4, ih5⟩ := calamuslaw11_TreeKeeps.mono_l k
  refine ⟨?_, ?_, ?_, ?_, ?_, ?_⟩
  ·intro y0 y1 y2 y3 y4
   unfold calamuslaw11_TreeKeeps.j1
   repeat' first
   | (with_reducible exact ih0 _ _ _ _ _)
   | (with_reducible exact ih1 _ _ _ _ _)
   | (with_reducible exact ih2 _ _ _ _ _ _ _ _ _)
   | (with_reducible exact ih3 _ _ _ _ _ _)
   | (with_reducible exact ih4 _ _ _ _ _ _)
   | (with_reducible exact ih5 _ _ _ _ _ _)
   | (with_reducible exact calamuslaw11_lives.mono _)
   | (with_reducible exact change_Diff.mono _ _ _)
   | (with_reducible exact change_Do.mono _ _ _)
   | (with_reducible exact tree_Add.mono _ _ _ _ _ _ _ _)
   | (with_reducible exact tree_Right.mono _ _ _)
   | (with_reducible exact tree_Texts.mono _ _ _ _)
   | (with_reducible exact LeO.refl _)
   | (with_reducible exact LeO.none _)
   | (with_reducible refine LeO.ite ?_ ?_)
   | (with_reducible refine LeO.bind ?_ (fun _ => ?_))
   | exact ih0 _ _ _ _ _
   | exact ih1 _ _ _ _ _
   | exact ih2 _ _ _ _ _ _ _ _ _
   | exact ih3 _ _ _ _ _ _
   | exact ih4 _ _ _ _ _ _
   | exact ih5 _ _ _ _ _ _
   | exact calamuslaw11_lives.mono _
   | exact change_Diff.mono _ _ _
   | exact change_Do.mono _ _ _
   | exact tree_Add.mono _ _ _ _ _ _ _ _
   | exact tree_Right.mono _ _ _
   | exact tree_Texts.mono _ _ _ _
   | exact LeO.none _
   | refine LeO.ite ?_ ?_
   | refine LeO.bind ?_ (fun _ => ?_)
  ·intro y0 y1 y2 y3 y4
   unfold calamuslaw11_TreeKeeps.j2
   repeat' first
   | (with_reducible exact ih0 _ _ _ _ _)
   | (with_reducible exact ih1 _ _ _ _ _)
   | (with_reducible exact ih2 _ _ _ _ _ _ _ _ _)
   | (with_reducible exact ih3 _ _ _ _ _ _)
   | (with_reducible exact ih4 _ _ _ _ _ _)
   | (with_reducible exact ih5 _ _ _ _ _ _)
   | (with_reducible exact calamuslaw11_lives.mono _)
   | (with_reducible exact change_Diff.mono _ _ _)
   | (with_reducible exact change_Do.mono _ _ _)
   | (with_reducible exact tree_Add.mono _ _ _ _ _ _ _ _)
   | (with_reducible exact tree_Right.mono _ _ _)
   | (with_reducible exact tree_Texts.mono _ _ _ _)
   | (with_reducible exact LeO.refl _)
   | (with_reducible exact LeO.none _)
   | (with_reducible refine LeO.ite ?_ ?_)
   | (with_reducible refine LeO.bind ?_ (fun _ => ?_))
   | exact ih0 _ _ _ _ _
   | exact ih1 _ _ _ _ _
   | exact ih2 _ _ _ _ _ _ _ _ _
   | exact ih3 _ _ _ _ _ _
   | exact ih4 _ _ _ _ _ _
   | exact ih5 _ _ _ _ _ _
   | exact calamuslaw11_lives.mono _
   | exact change_Diff.mono _ _ _
   | exact change_Do.mono _ _ _
   | exact tree_Add.mono _ _ _ _ _ _ _ _
   | exact tree_Right.mono _ _ _
   | exact tree_Texts.mono _ _ _ _
   | exact LeO.none _
   | refine LeO.ite ?_ ?_
   | refine LeO.bind ?_ (fun _ => ?_)
  ·intro y0 y1 y2 y3 y4 y5 y6 y7 y8
   unfold calamuslaw11_TreeKeeps.j3
   repeat' first
   | (with_reducible exact ih0 _ _ _ _ _)
   | (with_reducible exact ih1 _ _ _ _ _)
   | (with_reducible exact ih2 _ _ _ _ _ _ _ _ _)
   | (with_reducible exact ih3 _ _ _ _ _ _)
   | (with_reducible exact ih4 _ _ _ _ _ _)
   | (with_reducible exact ih5 _ _ _ _ _ _)
   | (with_reducible exact calamuslaw11_lives.mono _)
   | (with_reducible exact change_Diff.mono _ _ _)
   | (with_reducible exact change_Do.mono _ _ _)
   | (with_reducible exact tree_Add.mono _ _ _ _ _ _ _ _)
   | (with_reducible exact tree_Right.mono _ _ _)
   | (with_reducible exact tree_Texts.mono _ _ _ _)
   | (with_reducible exact LeO.refl _)
   | (with_reducible exact LeO.none _)
   | (with_reducible refine LeO.ite ?_ ?_)
   | (with_reducible refine LeO.bind ?_ (fun _ => ?_))
   | exact ih0 _ _ _ _ _
   | exact ih1 _ _ _ _ _
   | exact ih2 _ _ _ _ _ _ _ _ _
   | exact ih3 _ _ _ _ _ _
   | exact ih4 _ _ _ _ _ _
   | exact ih5 _ _ _ _ _ _
   | exact calamuslaw11_lives.mono _
   | exact change_Diff.mono _ _ _
   | exact change_Do.mono _ _ _
   | exact tree_Add.mono _ _ _ _ _ _ _ _
   | exact tree_Right.mono _ _ _
   | exact tree_Texts.mono _ _ _ _
   | exact LeO.none _
   | refine LeO.ite ?_ ?_
   | refine LeO.bind ?_ (fun _ => ?_)
  ·intro y0 y1 y2 y3 y4 y5
   unfold calamuslaw11_TreeKeeps.j4
   repeat' first
   | (with_reducible exact ih0 _ _ _ _ _)
   | (with_reducible exact ih1 _ _ _ _ _)
   | (with_reducible exact ih2 _ _ _ _ _ _ _ _ _)
   | (with_reducible exact ih3 _ _ _ _ _ _)
   | (with_reducible exact ih4 _ _ _ _ _ _)
   | (with_reducible exact ih5 _ _ _ _ _ _)
   | (with_reducible exact calamuslaw11_lives.mono _)
   | (with_reducible exact change_Diff.mono _ _ _)
   | (with_reducible exact change_Do.mono _ _ _)
   | (with_reducible exact tree_Add.mono _ _ _ _ _ _ _ _)
   | (with_reducible exact tree_Right.mono _ _ _)
   | (with_reducible exact tree_Texts.mono _ _ _ _)
   | (with_reducible exact LeO.refl _)
   | (with_reducible exact LeO.none _)
   | (with_reducible refine LeO.ite ?_ ?_)
   | (with_reducible refine LeO.bind ?_ (fun _ => ?_))
   | exact ih0 _ _ _ _ _
   | exact ih1 _ _ _ _ _
   | exact ih2 _ _ _ _ _ _ _ _ _
   | exact ih3 _ _ _ _ _ _
   | exact ih4 _ _ _ _ _ _
   | exact ih5 _ _ _ _ _ _
   | exact calamuslaw11_lives.mono _
   | exact change_Diff.mono _ _ _
   | exact change_Do.mono _ _ _
   | exact tree_Add.mono _ _ _ _ _ _ _ _
   | exact tree_Right.mono _ _ _
   | exact tree_Texts.mono _ _ _ _
   | exact LeO.none _
   | refine LeO.ite ?_ ?_
   | refine LeO.bind ?_ (fun _ => ?_)
  ·intro y0 y1 y2 y3 y4 y5
   unfold calamuslaw11_TreeKeeps.l1
   repeat' first
   | (with_reducible exact ih0 _ _ _ _ _)
   | (with_reducible exact ih1 _ _ _ _ _)
   | (with_reducible exact ih2 _ _ _ _ _ _ _ _ _)
   | (with_reducible exact ih3 _ _ _ _ _ _)
   | (with_reducible exact ih4 _ _ _ _ _ _)
   | (with_reducible exact ih5 _ _ _ _ _ _)
   | (with_reducible exact calamuslaw11_lives.mono _)
   | (with_reducible exact change_Diff.mono _ _ _)
   | (with_reducible exact change_Do.mono _ _ _)
   | (with_reducible exact tree_Add.mono _ _ _ _ _ _ _ _)
   | (with_reducible exact tree_Right.mono _ _ _)
   | (with_reducible exact tree_Texts.mono _ _ _ _)
   | (with_reducible exact LeO.refl _)
   | (with_reducible exact LeO.none _)
   | (with_reducible refine LeO.ite ?_ ?_)
   | (with_reducible refine LeO.bind ?_ (fun _ => ?_))
   | exact ih0 _ _ _ _ _
   | exact ih1 _ _ _ _ _
   | exact ih2 _ _ _ _ _ _ _ _ _
   | exact ih3 _ _ _ _ _ _
   | exact ih4 _ _ _ _ _ _
   | exact ih5 _ _ _ _ _ _
   | exact calamuslaw11_lives.mono _
   | exact change_Diff.mono _ _ _
   | exact change_Do.mono _ _ _
   | exact tree_Add.mono _ _ _ _ _ _ _ _
   | exact tree_Right.mono _ _ _
   | exact tree_Texts.mono _ _ _ _
   | exact LeO.none _
   | refine LeO.ite ?_ ?_
   | refine LeO.bind ?_ (fun _ => ?_)
  ·intro y0 y1 y2 y3 y4 y5
   unfold calamuslaw11_TreeKeeps.l0
   repeat' first
   | (with_reducible exact ih0 _ _ _ _ _)
   | (with_reducible exact ih1 _ _ _ _ _)
   | (with_reducible exact ih2 _ _ _ _ _ _ _ _ _)
   | (with_reducible exact ih3 _ _ _ _ _ _)
   | (with_reducible exact ih4 _ _ _ _ _ _)
   | (with_reducible exact ih5 _ _ _ _ _ _)
   | (with_reducible exact calamuslaw11_lives.mono _)
   | (with_reducible exact change_Diff.mono _ _ _)
   | (with_reducible exact change_Do.mono _ _ _)
   | (with_reducible exact tree_Add.mono _ _ _ _ _ _ _ _)
   | (with_reducible exact tree_Right.mono _ _ _)
   | (with_reducible exact tree_Texts.mono _ _ _ _)
   | (with_reducible exact LeO.refl _)
   | (with_reducible exact LeO.none _)
   | (with_reducible refine LeO.ite ?_ ?_)
   | (with_reducible refine LeO.bind ?_ (fun _ => ?_))
   | exact ih0 _ _ _ _ _
   | exact ih1 _ _ _ _ _
   | exact ih2 _ _ _ _ _ _ _ _ _
   | exact ih3 _ _ _ _ _ _
   | exact ih4 _ _ _ _ _ _
   | exact ih5 _ _ _ _ _ _
   | exact calamuslaw11_lives.mono _
   | exact change_Diff.mono _ _ _
   | exact change_Do.mono _ _ _
   | exact tree_Add.mono _ _ _ _ _ _ _ _
   | exact tree_Right.mono _ _ _
   | exact tree_Texts.mono _ _ _ _
   | exact LeO.none _
   | refine LeO.ite ?_ ?_
   | refine LeO.bind ?_ (fun _ => ?_)
theorem calamuslaw11_TreeKeeps.mono : ∀ a0 a1 a2 a3 k, LeO (calamuslaw11_TreeKeeps.f k a0 a1 a2 a3) (calamuslaw11_TreeKeeps.f (k + 1) a0 a1 a2 a3) := by
 intro a0 a1 a2 a3 k
 obtain ⟨ih0, ih1, ih2, ih3, ih4, ih5⟩ := calamuslaw11_TreeKeeps.mono_l k
 unfold calamuslaw11_TreeKeeps.f
 repeat' first
   | (with_reducible exact ih0 _ _ _ _ _)
   | (with_reducible exact ih1 _ _ _ _ _)
   | (with_reducible exact ih2 _ _ _ _ _ _ _ _ _)
   | (with_reducible exact ih3 _ _ _ _ _ _)
   | (with_reducible exact ih4 _ _ _ _ _ _)
   | (with_reducible exact ih5 _ _ _ _ _ _)
   | (with_reducible exact calamuslaw11_lives.mono _)
   | (with_reducible exact change_Diff.mono _ _ _)
   | (with_reducible exact change_Do.mono _ _ _)
   | (with_reducible exact tree_Add.mono _ _ _ _ _ _ _ _)
   | (with_reducible exact tree_Right.mono _ _ _)
   | (with_reducible exact tree_Texts.mono _ _ _ _)
   | (with_reducible exact LeO.refl _)
   | (with_reducible exact LeO.none _)
   | (with_reducible refine LeO.ite ?_ ?_)
   | (with_reducible refine LeO.bind ?_ (fun _ => ?_))
   | exact ih0 _ _ _ _ _
   | exact ih1 _ _ _ _ _
   | exact ih2 _ _ _ _ _ _ _ _ _
   | exact ih3 _ _ _ _ _ _
   | exact ih4 _ _ _ _ _ _
   | exact ih5 _ _ _ _ _ _
   | exact calamuslaw11_lives.mono _
   | exact change_Diff.mono _ _ _
   | exact change_Do.mono _ _ _
   | exact tree_Add.mono _ _ _ _ _ _ _ _
   | exact tree_Right.mono _ _ _
   | exact tree_Texts.mono _ _ _ _
   | exact LeO.none _
   | refine LeO.ite ?_ ?_
   | refine LeO.bind ?_ (fun _ => ?_)
set_option maxHeartbeats 8000000 in
set_option maxRecDepth 100000 in
theorem calamuslaw11_TreeKeeps.calls (k : Nat) (A0_0 : Option Addr) (c0_0 : Nat) (l0_0 : List (S69)) (a0_1 : Int) (a1 : ByteArray) (a2 : ByteArray) (r : Bool) (w : World) (hr0_0 : Kd.C k69 w A0_0 l0_0.length l0_0) (hc0_0 : l0_0.length ≤ c0_0) (h : calamuslaw11_TreeKeeps.f k l0_0 a0_1 a1 a2 = some r) (hr_ : r = true := by rfl) :
  Calls Try.prog 13 #[.agg #[.slice A0_0 l0_0.length c0_0, .int .i64 a0_1], .string a1, .string a2] w fun e w' => e = .returned (.bool r) ∧ Below w.heap.size w w' := by
 have hu46 := Try.underlying46
 have hu24 := Try.underlying24
 have HR0_0 := Aside0.mk hr0_0
 have HC0_0 := Aside0.mk hc0_0
 clear hr0_0 hc0_0
 have HB := Aside0.mk (Below.refl w.heap.size w)
 have H : (calamuslaw11_TreeKeeps.l0 k a1 a2 (wrap64 ((a1.size : Int) + (a2.size : Int))) 0 l0_0 a0_1) = some r := h
 clear h
 have HC4 := Aside0.mk H
 clear H
 go_enter Try.func13, Try.ntmps13
 go_upto_block 0 with (first | ((with_reducible refine gate_dst (N := 3) rfl ?_); (try (refine gate_guard (by rfl) ?_; dsimp only)); refine be_ (N := 3) (cs := #[.slice A0_0 l0_0.length c0_0, .int .i64 a0_1]) (t := 46) (h := ?_); intro gb301 hg w5 hbox hb; have BK301 := Aside0.mk (hbox); have GW301 := gw_ HB hg; have GE301 := gw_ HB hg; replace HB := bs_ HB hb; clear hb hbox hg))
 repeat (go_quiet (first | ((with_reducible refine gate_dst (N := 3) rfl ?_); (try (refine gate_guard (by rfl) ?_; dsimp only)); refine be_ (N := 3) (cs := #[.slice A0_0 l0_0.length c0_0, .int .i64 a0_1]) (t := 46) (h := ?_); intro gb301 hg w5 hbox hb; have BK301 := Aside0.mk (hbox); have GW301 := gw_ HB hg; have GE301 := gw_ HB hg; replace HB := bs_ HB hb; clear hb hbox hg)); go_upto_block 0 with (first | ((with_reducible refine gate_dst (N := 3) rfl ?_); (try (refine gate_guard (by rfl) ?_; dsimp only)); refine be_ (N := 3) (cs := #[.slice A0_0 l0_0.length c0_0, .int .i64 a0_1]) (t := 46) (h := ?_); intro gb301 hg w5 hbox hb; have BK301 := Aside0.mk (hbox); have GW301 := gw_ HB hg; have GE301 := gw_ HB hg; replace HB := bs_ HB hb; clear hb hbox hg)))
 (try simp only [Act.put, List.setIfInBounds_toArray, List.set_cons_zero, List.set_cons_succ])
 go_cut [7] (fun v7 wc => ∃ (kq : Nat) (x7_3 : Int), v7 = .int .i64 x7_3 ∧ Aside0 (calamuslaw11_TreeKeeps.j1 kq a1 a2 x7_3 l0_0 a0_1 = some r) ∧ Aside0 (kq ≤ k) ∧ Aside0 (wc.heap[gb301]? = some (.cells #[(.slice A0_0 l0_0.length c0_0), .int .i64 a0_1] 46 (0, 0))) ∧ Aside0 (Below w.heap.size w wc))
 case first =>
  have H := HC4.out
  clear HC4
  have H' := Aside0.mk H
  clear H
  go_wp2
  repeat (go_quiet (fail); try go_wp2)
  go_loopg [7, 8] k (fun kq v7 v8 w' => ∃ (x7_1 : Int) (x8_1 : Int), v7 = .int .i64 x7_1 ∧ v8 = .int .i64 x8_1 ∧ Aside0 (calamuslaw11_TreeKeeps.l0 kq a1 a2 x7_1 x8_1 l0_0 a0_1 = some r) ∧ Aside0 (kq ≤ k) ∧ Aside0 (w'.heap[gb301]? = some (.cells #[(.slice A0_0 l0_0.length c0_0), .int .i64 a0_1] 46 (0, 0))) ∧ Aside0 (Below w.heap.size w w'))
  case atStart => exact ⟨(wrap64 ((a1.size : Int) + (a2.size : Int))), (0), es_, es_, H', ⟨Nat.le_refl _⟩, ⟨bw_ BK301.out⟩, ⟨hb_ HB⟩⟩
  case round =>
   clear H'
   obtain ⟨x7_1, x8_1, rfl, rfl, HA, HK1, BK301, HB⟩ := hrel
   cases gk with
   | zero => exact absurd HA.out (by simp [calamuslaw11_TreeKeeps.l0])
   | succ k1 =>
    have H := HA.out
    clear HA
    simp only [calamuslaw11_TreeKeeps.l0] at H
    by_cases c6 : x8_1 < (l0_0.length : Int)
    ·rw [if_pos c6] at H
     have c6b0 : decide (x8_1 < (l0_0.length : Int)) = true := decide_eq_true c6
     clear c6
     (first | rw [c6b0] | (simp only [i64_w, i32_w]; rw [c6b0]) | skip)
     by_cases c7 : x8_1 < 61
     ·rw [if_pos c7] at H
      have c7b0 : decide (x8_1 < 61) = true := decide_eq_true c7
      clear c7
      by_cases c8 : 0 ≤ x8_1
      ·rw [if_pos c8] at H
       have c8b0 : decide (0 ≤ x8_1) = true := decide_eq_true c8
       clear c8
       have H' := Aside0.mk H
       clear H
       obtain ⟨hcz9_0, hcz9_1, hfz9_0, hfz9_1⟩ := bc2_ BK301
       have p302 : 0 ≤ (x8_1 : Int) := of_decide_eq_true as_
       have q302 : x8_1 < (l0_0.length : Int) := of_decide_eq_true as_
       obtain ⟨ad302, e302, hx302_0, hx302_1, hx302_2, hx302_3, hx302_4, hx302_5, hx302_6⟩ := at_T69b HR0_0 HB x8_1 p302 q302
       cases e302
       replace p302 := eq_true p302
       replace q302 := eq_true q302
       have p303 : 0 ≤ (x8_1 : Int) := of_decide_eq_true as_
       have q303 : x8_1 < (l0_0.length : Int) := of_decide_eq_true as_
       obtain ⟨ad303, e303, hx303_0, hx303_1, hx303_2, hx303_3, hx303_4, hx303_5, hx303_6⟩ := at_T69b HR0_0 HB x8_1 p303 q303
       obtain rfl : ad302 = ad303 := (by injection e303)
       replace p303 := eq_true p303
       replace q303 := eq_true q303
       go_wp2
       repeat (go_quiet (fail); try go_wp2)
       go_roundg k1
       case measure => have := HK1.out; omega
       case rel => exact ⟨(wrap64 (x7_1 + (wrap64 ((((rd_T69 l0_0 x8_1).f4.f1).size : Int) + (((rd_T69 l0_0 x8_1).f4.f2).size : Int))))), (wrap64 (x8_1 + 1)), es_, es_, H', ⟨by have := HK1.out; omega⟩, ⟨bw_ BK301.out⟩, ⟨hb_ HB⟩⟩
      ·rw [if_neg c8] at H
       exact absurd H (by simp)
     ·rw [if_neg c7] at H
      have c7b0 : decide (x8_1 < 61) = false := decide_eq_false c7
      clear c7
      have H' := Aside0.mk H
      clear H
      obtain ⟨hcz10_0, hcz10_1, hfz10_0, hfz10_1⟩ := bc2_ BK301
      go_wp2
      repeat (go_quiet (fail); try go_wp2)
      go_meet
      case rel => exact ⟨_, (x7_1), es_, H', ⟨by have := HK1.out; first | omega | exact Nat.le_refl _⟩, ⟨bw_ BK301.out⟩, ⟨hb_ HB⟩⟩
    ·rw [if_neg c6] at H
     have c6b0 : decide (x8_1 < (l0_0.length : Int)) = false := decide_eq_false c6
     clear c6
     (first | rw [c6b0] | (simp only [i64_w, i32_w]; rw [c6b0]) | skip)
     have H' := Aside0.mk H
     clear H
     obtain ⟨hcz11_0, hcz11_1, hfz11_0, hfz11_1⟩ := bc2_ BK301
     go_wp2
     repeat (go_quiet (fail); try go_wp2)
     go_meet
     case rel => exact ⟨_, (x7_1), es_, H', ⟨by have := HK1.out; first | omega | exact Nat.le_refl _⟩, ⟨bw_ BK301.out⟩, ⟨hb_ HB⟩⟩
 case rest =>
  clear HC4
  obtain ⟨kq, x7_3, rfl, HA, HJ3, BK301, HB⟩ := hcut
  cases kq with
  | zero => exact absurd HA.out (by simp [calamuslaw11_TreeKeeps.j1])
  | succ kj3 =>
   have H := HA.out
   clear HA
   simp only [calamuslaw11_TreeKeeps.j1] at H
   have HC12 := Aside0.mk H
   clear H
   go_upto_region 6 with (fail)
   repeat (go_quiet (fail); go_upto_region 6 with (fail))
   go_cut [61] (fun v61 wc => ∃ (kq : Nat) (x61_11 : Bool), v61 = .bool x61_11 ∧ Aside0 (calamuslaw11_TreeKeeps.j2 kq a1 a2 x61_11 l0_0 a0_1 = some r) ∧ Aside0 (kq ≤ kj3) ∧ Aside0 (wc.heap[gb301]? = some (.cells #[(.slice A0_0 l0_0.length c0_0), .int .i64 a0_1] 46 (0, 0))) ∧ Aside0 (Below w.heap.size w wc))
   case first =>
    have H := HC12.out
    clear HC12
    by_cases c13 : (l0_0.length : Int) > 60
    ·rw [if_pos c13] at H
     have c13b0 : decide (60 < (l0_0.length : Int)) = true := decide_eq_true c13
     have c13b1 : decide (60 < l0_0.length) = true := decide_eq_true (by omega)
     clear c13
     (first | rw [c13b0] | (simp only [i64_w, i32_w]; rw [c13b0]) | skip)
     have H' := Aside0.mk H
     clear H
     obtain ⟨hcz14_0, hcz14_1, hfz14_0, hfz14_1⟩ := bc2_ BK301
     go_wp2
     repeat (go_quiet (fail); try go_wp2)
     go_meet
     case rel => exact ⟨_, (true), es_, H', ⟨by have := HJ3.out; first | omega | exact Nat.le_refl _⟩, ⟨bw_ BK301.out⟩, ⟨hb_ HB⟩⟩
    ·rw [if_neg c13] at H
     have c13b0 : decide (60 < (l0_0.length : Int)) = false := decide_eq_false c13
     have c13b1 : decide (60 < l0_0.length) = false := decide_eq_false (by omega)
     clear c13
     (first | rw [c13b0] | (simp only [i64_w, i32_w]; rw [c13b0]) | skip)
     have H' := Aside0.mk H
     clear H
     obtain ⟨hcz15_0, hcz15_1, hfz15_0, hfz15_1⟩ := bc2_ BK301
     go_wp2
     repeat (go_quiet (fail); try go_wp2)
     go_meet
     case rel => exact ⟨_, (decide (x7_3 > 3000)), es_, H', ⟨by have := HJ3.out; first | omega | exact Nat.le_refl _⟩, ⟨bw_ BK301.out⟩, ⟨hb_ HB⟩⟩
   case rest =>
    clear HC12
    obtain ⟨kq, x61_11, rfl, HA, HJ11, BK301, HB⟩ := hcut
    cases kq with
    | zero => exact absurd HA.out (by simp [calamuslaw11_TreeKeeps.j2])
    | succ kj11 =>
     have H := HA.out
     clear HA
     simp only [calamuslaw11_TreeKeeps.j2] at H
     by_cases c16 : x61_11 = true
     ·subst c16
      have H1 : ((calamuslaw11_lives.f kj11).bind fun t304 => (some t304)) = some r := by rw [if_pos rfl] at H; exact H
      clear H
      have H := H1
      clear H1
      replace H := Option.bind_eq_some_iff.mp H
      obtain ⟨t304, A170, H⟩ := H
      replace H : (some t304) = some r := H
      have A17 := Aside0.mk A170
      clear A170
      obtain rfl := Option.some.inj H
      go_wp2_with (first | (go_at_call 33; (with_reducible refine (calamuslaw11_lives.calls kj11  t304 _ A17.out).mono ?_); rintro e w18 ⟨rfl, hb⟩; replace BK301 := bb_ BK301 hb; replace HB := bs_ HB hb; (try clear hb); (try clear hb2); (try clear hk); (try clear hi)))
      repeat (go_quiet (first | (go_at_call 33; (with_reducible refine (calamuslaw11_lives.calls kj11  t304 _ A17.out).mono ?_); rintro e w18 ⟨rfl, hb⟩; replace BK301 := bb_ BK301 hb; replace HB := bs_ HB hb; (try clear hb); (try clear hb2); (try clear hk); (try clear hi))); try go_wp2_with (first | (go_at_call 33; (with_reducible refine (calamuslaw11_lives.calls kj11  t304 _ A17.out).mono ?_); rintro e w18 ⟨rfl, hb⟩; replace BK301 := bb_ BK301 hb; replace HB := bs_ HB hb; (try clear hb); (try clear hb2); (try clear hk); (try clear hi))))
      go_ret
      exact ⟨er_, hb_ HB⟩
     ·replace c16 := Bool.eq_false_iff.mpr c16
      subst c16
      have H1 : ((tree_Texts.f kj11 l0_0 a0_1 a1).bind fun bt305 => ((change_Diff.f kj11 a1 a2).bind fun bt309 => ((change_Do.f kj11 a1 (([(⟨bt309.1, bt309.2.1, bt309.2.2⟩ : S24)] : List (S24)))).bind fun bt316 => (if bt305.2 = 0 then (calamuslaw11_TreeKeeps.j3 kj11 a1 bt305.1 bt316.1 (bt316.2 != 0) l0_0 a0_1 bt309.1 bt309.2.1 bt309.2.2) else (calamuslaw11_TreeKeeps.j3 kj11 a1 bt305.1 bt316.1 true l0_0 a0_1 bt309.1 bt309.2.1 bt309.2.2))))) = some r := by rw [if_neg (show ¬ (false = true) by decide)] at H; exact H
      clear H
      have H := H1
      clear H1
      replace H := Option.bind_eq_some_iff.mp H
      obtain ⟨⟨t305, t308⟩, A190, H⟩ := H
      replace H : ((change_Diff.f kj11 a1 a2).bind fun bt309 => ((change_Do.f kj11 a1 (([(⟨bt309.1, bt309.2.1, bt309.2.2⟩ : S24)] : List (S24)))).bind fun bt316 => (if t308 = 0 then (calamuslaw11_TreeKeeps.j3 kj11 a1 t305 bt316.1 (bt316.2 != 0) l0_0 a0_1 bt309.1 bt309.2.1 bt309.2.2) else (calamuslaw11_TreeKeeps.j3 kj11 a1 t305 bt316.1 true l0_0 a0_1 bt309.1 bt309.2.1 bt309.2.2)))) = some r := H
      have A19 := Aside0.mk A190
      clear A190
      replace H := Option.bind_eq_some_iff.mp H
      obtain ⟨⟨t309, t310, t311⟩, A200, H⟩ := H
      replace H : ((change_Do.f kj11 a1 (([(⟨t309, t310, t311⟩ : S24)] : List (S24)))).bind fun bt316 => (if t308 = 0 then (calamuslaw11_TreeKeeps.j3 kj11 a1 t305 bt316.1 (bt316.2 != 0) l0_0 a0_1 t309 t310 t311) else (calamuslaw11_TreeKeeps.j3 kj11 a1 t305 bt316.1 true l0_0 a0_1 t309 t310 t311))) = some r := H
      have A20 := Aside0.mk A200
      clear A200
      obtain ⟨y313, hy313⟩ : ∃ y_ : List (S24), y_ = (([(⟨t309, t310, t311⟩ : S24)] : List (S24))) := ⟨_, rfl⟩
      replace H : ((change_Do.f kj11 a1 y313).bind fun bt316 => (if t308 = 0 then (calamuslaw11_TreeKeeps.j3 kj11 a1 t305 bt316.1 (bt316.2 != 0) l0_0 a0_1 t309 t310 t311) else (calamuslaw11_TreeKeeps.j3 kj11 a1 t305 bt316.1 true l0_0 a0_1 t309 t310 t311))) = some r := th_ H hy313
      have Ny313 := Aside0.mk hy313
      clear hy313
      replace H := Option.bind_eq_some_iff.mp H
      obtain ⟨⟨t316, t317⟩, A210, H⟩ := H
      replace H : (if t308 = 0 then (calamuslaw11_TreeKeeps.j3 kj11 a1 t305 t316 (t317 != 0) l0_0 a0_1 t309 t310 t311) else (calamuslaw11_TreeKeeps.j3 kj11 a1 t305 t316 true l0_0 a0_1 t309 t310 t311)) = some r := H
      have A21 := Aside0.mk A210
      clear A210
      have HC22 := Aside0.mk H
      clear H
      obtain ⟨hcz23_0, hcz23_1, hfz23_0, hfz23_1⟩ := bc2_ BK301
      go_upto_region 11 with (first | (go_at_call 55; (with_reducible refine (tree_Texts.calls kj11 _ _ l0_0 a0_1 a1 t305 t308 _ ?side1 ?side2 A19.out).mono ?_); (case side1 => exact cw_ (Kd.C_below HR0_0.out HB.out)); (case side2 => exact HC0_0.out); rintro e w24 ⟨v306, rfl, ho0, hb⟩; have HO307 := Aside0.mk (Kd.R_lower ho0 (below_size (hb_ HB))); replace BK301 := bb_ BK301 hb; replace HB := bs_ HB hb; (try clear hb); (try clear hb2); (try clear hk); (try clear hi); (try clear ho0)) | (go_at_call 15; (with_reducible refine (change_Diff.calls kj11 a1 a2 t309 t310 t311 _ A20.out).mono ?_); rintro e w25 ⟨rfl, hb⟩; replace HO307 := Aside0.mk (Kd.R_below (rw_ HO307.out) hb); replace BK301 := bb_ BK301 hb; replace HB := bs_ HB hb; (try clear hb); (try clear hb2); (try clear hk); (try clear hi)) | ((with_reducible refine gate_dst (N := 11) rfl ?_); (try (refine gate_guard (by rfl) ?_; dsimp only)); refine be_ (N := 11) (cs := #[.int .i64 0, .string (⟨#[]⟩ : ByteArray), .string (⟨#[]⟩ : ByteArray)]) (t := 24) (h := ?_); intro gb312 hg w26 hbox hb; have BK312 := Aside0.mk (hbox); have GW312 := gw_ HB hg; have GE312 := gw_ HB hg; have NB301_312 := ne_ BK301 hg; have NB312_301 := en_ BK301 hg; replace HO307 := Aside0.mk (Kd.R_below (rw_ HO307.out) hb); replace BK301 := bb_ BK301 hb; replace HB := bs_ HB hb; clear hb hbox hg; have hnb27 := NB312_301.out; have hnc27 := NB301_312.out; obtain ⟨hcz28_0, hcz28_1, hcz28_2, hfz28_0, hfz28_1, hfz28_2⟩ := bc3_ BK312) | ((with_reducible refine gate_dst (N := 75) rfl ?_); (try (refine gate_guard (by rfl) ?_; dsimp only)); refine Kd.R_lit k24 _ 24 ?hg (N := 75) ?hd (xs := ([(⟨t309, t310, t311⟩ : S24)] : List (S24))) (inner := [.int .i64 t309, .string t310, .string t311]) (ok := fun _ => True) (okp := fun _ => True) ?hr ?hp (fun _ hk => hk) trivial (Below.refl _ _) (Nat.le_refl _) (by simp) ?_; (case hd => rfl); (case hg => rfl); (case hr => first | (go_simp; done) | (go_simp; rfl)); (case hp => exact (Reps.c3 (show Kd.M k24 _ _ _ (⟨t309, t310, t311⟩ : S24) [.int .i64 t309, .string t310, .string t311] from (k24_mkM _ _ _ (⟨t309, t310, t311⟩ : S24) )) (Reps.none _ _))); intro v314 w29 ho30 hb hg_ hnew_; clear hg_ hnew_; (first | rw [← Ny313.out] at ho30 | (simp only [Int.reduceToNat] at ho30; rw [← Ny313.out] at ho30)); have HO315 := Aside0.mk (Kd.R_lower (Kd.R_newB ho30 (g := gb312) (o := .cells #[.int .i64 t309, .string t310, .string t311] 24 (0, 0)) (bp_ BK312.out)) (below_size (hb_ HB))); replace HO307 := Aside0.mk (Kd.R_below (by (with_reducible repeat (first | apply Kd.R_alloc | apply Kd.R_drewN | apply Kd.R_drew)); exact (Kd.R_mono (rf_ (Kd.R_types HO307.out BK312.out (by decide)) (fun _ hk => hk.2)) (fun _ h_ => h_.1))) hb); replace BK301 := Aside0.mk (blk_below (g := gb301) (o := .cells #[.slice A0_0 l0_0.length c0_0, .int .i64 a0_1] 46 (0, 0)) (bp_ BK301.out) hb); replace HB := bs_ HB hb; replace BK312 := Aside0.mk (blk_below (g := gb312) (o := .cells #[.int .i64 t309, .string t310, .string t311] 24 (0, 0)) (bp_ BK312.out) hb); clear hb ho30; obtain ⟨Ao31, co31, eo31⟩ := Kd.R_slice HO315.out; subst eo31) | (go_at_call 21; (with_reducible refine (change_Do.calls kj11 a1 _ _ y313 t316 t317 _ ?side1 ?side2 A21.out).mono ?_); (case side1 => repeat (first | exact (Kd.R_reads' HO315.out).2.2 | (with_reducible refine Kd.C_alloc ?_ _) | (with_reducible refine Kd.C_drewN ?_ _) | (with_reducible refine Kd.C_drew ?_))); (case side2 => exact (Kd.R_reads' HO315.out).2.1); rintro e w32 ⟨rfl, hb⟩; replace HO307 := Aside0.mk (Kd.R_below (rw_ HO307.out) hb); replace HO315 := Aside0.mk (Kd.R_below (rw_ HO315.out) hb); replace BK301 := bb_ BK301 hb; replace BK312 := bb_ BK312 hb; replace HB := bs_ HB hb; (try clear hb); (try clear hb2); (try clear hk); (try clear hi)))
      repeat (go_quiet (first | (go_at_call 55; (with_reducible refine (tree_Texts.calls kj11 _ _ l0_0 a0_1 a1 t305 t308 _ ?side1 ?side2 A19.out).mono ?_); (case side1 => exact cw_ (Kd.C_below HR0_0.out HB.out)); (case side2 => exact HC0_0.out); rintro e w24 ⟨v306, rfl, ho0, hb⟩; have HO307 := Aside0.mk (Kd.R_lower ho0 (below_size (hb_ HB))); replace BK301 := bb_ BK301 hb; replace HB := bs_ HB hb; (try clear hb); (try clear hb2); (try clear hk); (try clear hi); (try clear ho0)) | (go_at_call 15; (with_reducible refine (change_Diff.calls kj11 a1 a2 t309 t310 t311 _ A20.out).mono ?_); rintro e w25 ⟨rfl, hb⟩; replace HO307 := Aside0.mk (Kd.R_below (rw_ HO307.out) hb); replace BK301 := bb_ BK301 hb; replace HB := bs_ HB hb; (try clear hb); (try clear hb2); (try clear hk); (try clear hi)) | ((with_reducible refine gate_dst (N := 11) rfl ?_); (try (refine gate_guard (by rfl) ?_; dsimp only)); refine be_ (N := 11) (cs := #[.int .i64 0, .string (⟨#[]⟩ : ByteArray), .string (⟨#[]⟩ : ByteArray)]) (t := 24) (h := ?_); intro gb312 hg w26 hbox hb; have BK312 := Aside0.mk (hbox); have GW312 := gw_ HB hg; have GE312 := gw_ HB hg; have NB301_312 := ne_ BK301 hg; have NB312_301 := en_ BK301 hg; replace HO307 := Aside0.mk (Kd.R_below (rw_ HO307.out) hb); replace BK301 := bb_ BK301 hb; replace HB := bs_ HB hb; clear hb hbox hg; have hnb27 := NB312_301.out; have hnc27 := NB301_312.out; obtain ⟨hcz28_0, hcz28_1, hcz28_2, hfz28_0, hfz28_1, hfz28_2⟩ := bc3_ BK312) | ((with_reducible refine gate_dst (N := 75) rfl ?_); (try (refine gate_guard (by rfl) ?_; dsimp only)); refine Kd.R_lit k24 _ 24 ?hg (N := 75) ?hd (xs := ([(⟨t309, t310, t311⟩ : S24)] : List (S24))) (inner := [.int .i64 t309, .string t310, .string t311]) (ok := fun _ => True) (okp := fun _ => True) ?hr ?hp (fun _ hk => hk) trivial (Below.refl _ _) (Nat.le_refl _) (by simp) ?_; (case hd => rfl); (case hg => rfl); (case hr => first | (go_simp; done) | (go_simp; rfl)); (case hp => exact (Reps.c3 (show Kd.M k24 _ _ _ (⟨t309, t310, t311⟩ : S24) [.int .i64 t309, .string t310, .string t311] from (k24_mkM _ _ _ (⟨t309, t310, t311⟩ : S24) )) (Reps.none _ _))); intro v314 w29 ho30 hb hg_ hnew_; clear hg_ hnew_; (first | rw [← Ny313.out] at ho30 | (simp only [Int.reduceToNat] at ho30; rw [← Ny313.out] at ho30)); have HO315 := Aside0.mk (Kd.R_lower (Kd.R_newB ho30 (g := gb312) (o := .cells #[.int .i64 t309, .string t310, .string t311] 24 (0, 0)) (bp_ BK312.out)) (below_size (hb_ HB))); replace HO307 := Aside0.mk (Kd.R_below (by (with_reducible repeat (first | apply Kd.R_alloc | apply Kd.R_drewN | apply Kd.R_drew)); exact (Kd.R_mono (rf_ (Kd.R_types HO307.out BK312.out (by decide)) (fun _ hk => hk.2)) (fun _ h_ => h_.1))) hb); replace BK301 := Aside0.mk (blk_below (g := gb301) (o := .cells #[.slice A0_0 l0_0.length c0_0, .int .i64 a0_1] 46 (0, 0)) (bp_ BK301.out) hb); replace HB := bs_ HB hb; replace BK312 := Aside0.mk (blk_below (g := gb312) (o := .cells #[.int .i64 t309, .string t310, .string t311] 24 (0, 0)) (bp_ BK312.out) hb); clear hb ho30; obtain ⟨Ao31, co31, eo31⟩ := Kd.R_slice HO315.out; subst eo31) | (go_at_call 21; (with_reducible refine (change_Do.calls kj11 a1 _ _ y313 t316 t317 _ ?side1 ?side2 A21.out).mono ?_); (case side1 => repeat (first | exact (Kd.R_reads' HO315.out).2.2 | (with_reducible refine Kd.C_alloc ?_ _) | (with_reducible refine Kd.C_drewN ?_ _) | (with_reducible refine Kd.C_drew ?_))); (case side2 => exact (Kd.R_reads' HO315.out).2.1); rintro e w32 ⟨rfl, hb⟩; replace HO307 := Aside0.mk (Kd.R_below (rw_ HO307.out) hb); replace HO315 := Aside0.mk (Kd.R_below (rw_ HO315.out) hb); replace BK301 := bb_ BK301 hb; replace BK312 := bb_ BK312 hb; replace HB := bs_ HB hb; (try clear hb); (try clear hb2); (try clear hk); (try clear hi))); go_upto_region 11 with (first | (go_at_call 55; (with_reducible refine (tree_Texts.calls kj11 _ _ l0_0 a0_1 a1 t305 t308 _ ?side1 ?side2 A19.out).mono ?_); (case side1 => exact cw_ (Kd.C_below HR0_0.out HB.out)); (case side2 => exact HC0_0.out); rintro e w24 ⟨v306, rfl, ho0, hb⟩; have HO307 := Aside0.mk (Kd.R_lower ho0 (below_size (hb_ HB))); replace BK301 := bb_ BK301 hb; replace HB := bs_ HB hb; (try clear hb); (try clear hb2); (try clear hk); (try clear hi); (try clear ho0)) | (go_at_call 15; (with_reducible refine (change_Diff.calls kj11 a1 a2 t309 t310 t311 _ A20.out).mono ?_); rintro e w25 ⟨rfl, hb⟩; replace HO307 := Aside0.mk (Kd.R_below (rw_ HO307.out) hb); replace BK301 := bb_ BK301 hb; replace HB := bs_ HB hb; (try clear hb); (try clear hb2); (try clear hk); (try clear hi)) | ((with_reducible refine gate_dst (N := 11) rfl ?_); (try (refine gate_guard (by rfl) ?_; dsimp only)); refine be_ (N := 11) (cs := #[.int .i64 0, .string (⟨#[]⟩ : ByteArray), .string (⟨#[]⟩ : ByteArray)]) (t := 24) (h := ?_); intro gb312 hg w26 hbox hb; have BK312 := Aside0.mk (hbox); have GW312 := gw_ HB hg; have GE312 := gw_ HB hg; have NB301_312 := ne_ BK301 hg; have NB312_301 := en_ BK301 hg; replace HO307 := Aside0.mk (Kd.R_below (rw_ HO307.out) hb); replace BK301 := bb_ BK301 hb; replace HB := bs_ HB hb; clear hb hbox hg; have hnb27 := NB312_301.out; have hnc27 := NB301_312.out; obtain ⟨hcz28_0, hcz28_1, hcz28_2, hfz28_0, hfz28_1, hfz28_2⟩ := bc3_ BK312) | ((with_reducible refine gate_dst (N := 75) rfl ?_); (try (refine gate_guard (by rfl) ?_; dsimp only)); refine Kd.R_lit k24 _ 24 ?hg (N := 75) ?hd (xs := ([(⟨t309, t310, t311⟩ : S24)] : List (S24))) (inner := [.int .i64 t309, .string t310, .string t311]) (ok := fun _ => True) (okp := fun _ => True) ?hr ?hp (fun _ hk => hk) trivial (Below.refl _ _) (Nat.le_refl _) (by simp) ?_; (case hd => rfl); (case hg => rfl); (case hr => first | (go_simp; done) | (go_simp; rfl)); (case hp => exact (Reps.c3 (show Kd.M k24 _ _ _ (⟨t309, t310, t311⟩ : S24) [.int .i64 t309, .string t310, .string t311] from (k24_mkM _ _ _ (⟨t309, t310, t311⟩ : S24) )) (Reps.none _ _))); intro v314 w29 ho30 hb hg_ hnew_; clear hg_ hnew_; (first | rw [← Ny313.out] at ho30 | (simp only [Int.reduceToNat] at ho30; rw [← Ny313.out] at ho30)); have HO315 := Aside0.mk (Kd.R_lower (Kd.R_newB ho30 (g := gb312) (o := .cells #[.int .i64 t309, .string t310, .string t311] 24 (0, 0)) (bp_ BK312.out)) (below_size (hb_ HB))); replace HO307 := Aside0.mk (Kd.R_below (by (with_reducible repeat (first | apply Kd.R_alloc | apply Kd.R_drewN | apply Kd.R_drew)); exact (Kd.R_mono (rf_ (Kd.R_types HO307.out BK312.out (by decide)) (fun _ hk => hk.2)) (fun _ h_ => h_.1))) hb); replace BK301 := Aside0.mk (blk_below (g := gb301) (o := .cells #[.slice A0_0 l0_0.length c0_0, .int .i64 a0_1] 46 (0, 0)) (bp_ BK301.out) hb); replace HB := bs_ HB hb; replace BK312 := Aside0.mk (blk_below (g := gb312) (o := .cells #[.int .i64 t309, .string t310, .string t311] 24 (0, 0)) (bp_ BK312.out) hb); clear hb ho30; obtain ⟨Ao31, co31, eo31⟩ := Kd.R_slice HO315.out; subst eo31) | (go_at_call 21; (with_reducible refine (change_Do.calls kj11 a1 _ _ y313 t316 t317 _ ?side1 ?side2 A21.out).mono ?_); (case side1 => repeat (first | exact (Kd.R_reads' HO315.out).2.2 | (with_reducible refine Kd.C_alloc ?_ _) | (with_reducible refine Kd.C_drewN ?_ _) | (with_reducible refine Kd.C_drew ?_))); (case side2 => exact (Kd.R_reads' HO315.out).2.1); rintro e w32 ⟨rfl, hb⟩; replace HO307 := Aside0.mk (Kd.R_below (rw_ HO307.out) hb); replace HO315 := Aside0.mk (Kd.R_below (rw_ HO315.out) hb); replace BK301 := bb_ BK301 hb; replace BK312 := bb_ BK312 hb; replace HB := bs_ HB hb; (try clear hb); (try clear hb2); (try clear hk); (try clear hi))))
      (try simp only [Act.put, List.setIfInBounds_toArray, List.set_cons_zero, List.set_cons_succ])
      go_cut [84] (fun v84 wc => ∃ (kq : Nat) (x84_21 : Bool), v84 = .bool x84_21 ∧ Aside0 (calamuslaw11_TreeKeeps.j3 kq a1 t305 t316 x84_21 l0_0 a0_1 t309 t310 t311 = some r) ∧ Aside0 (kq ≤ kj11) ∧ Aside0 (Kd.R Kd.string 9 wc w.heap.size (fun _ => True) v306 t305) ∧ Aside0 (wc.heap[gb301]? = some (.cells #[(.slice A0_0 l0_0.length c0_0), .int .i64 a0_1] 46 (0, 0))) ∧ Aside0 (wc.heap[gb312]? = some (.cells #[.int .i64 t309, .string t310, .string t311] 24 (0, 0))) ∧ Aside0 (Below w.heap.size w wc))
      case first =>
       have H := HC22.out
       clear HC22
       by_cases c33 : t308 = 0
       ·rw [if_pos c33] at H
        have c33b0 : (t308 == 0) = true := beq_iff_eq.mpr c33
        have c33b1 : (t308 != 0) = false := bne_eq_false_iff_eq.mpr c33
        clear c33
        (first | rw [c33b0] | (simp only [i64_w, i32_w]; rw [c33b0]) | skip)
        have H' := Aside0.mk H
        clear H
        go_wp2
        repeat (go_quiet (fail); try go_wp2)
        go_meet
        case rel => exact ⟨_, ((t317 != 0)), es_, H', ⟨by have := HJ3.out; have := HJ11.out; first | omega | exact Nat.le_refl _⟩, ⟨rw_ HO307.out⟩, ⟨bw_ BK301.out⟩, ⟨bw_ BK312.out⟩, ⟨hb_ HB⟩⟩
       ·rw [if_neg c33] at H
        have c33b0 : (t308 == 0) = false := beq_eq_false_iff_ne.mpr c33
        have c33b1 : (t308 != 0) = true := bne_iff_ne.mpr c33
        (first | rw [c33b0] | (simp only [i64_w, i32_w]; rw [c33b0]) | skip)
        have H' := Aside0.mk H
        clear H
        go_wp2
        repeat (go_quiet (fail); try go_wp2)
        go_meet
        case rel => exact ⟨_, (true), es_, H', ⟨by have := HJ3.out; have := HJ11.out; first | omega | exact Nat.le_refl _⟩, ⟨rw_ HO307.out⟩, ⟨bw_ BK301.out⟩, ⟨bw_ BK312.out⟩, ⟨hb_ HB⟩⟩
      case rest =>
       clear HC22
       try clear c16
       try clear hcz23_0
       try clear hcz23_1
       try clear hcz28_0
       try clear hcz28_1
       try clear hcz28_2
       try clear hfz23_0
       try clear hfz23_1
       try clear hfz28_0
       try clear hfz28_1
       try clear hfz28_2
       obtain ⟨kq, x84_21, rfl, HA, HJ21, HO_9, BK301, BK312, HB⟩ := hcut
       cases kq with
       | zero => exact absurd HA.out (by simp [calamuslaw11_TreeKeeps.j3])
       | succ kj21 =>
        have H := HA.out
        clear HA
        simp only [calamuslaw11_TreeKeeps.j3] at H
        by_cases c34 : x84_21 = true
        ·subst c34
         have H1 : ((calamuslaw11_lives.f kj21).bind fun t318 => (some t318)) = some r := by rw [if_pos rfl] at H; exact H
         clear H
         have H := H1
         clear H1
         replace H := Option.bind_eq_some_iff.mp H
         obtain ⟨t318, A350, H⟩ := H
         replace H : (some t318) = some r := H
         have A35 := Aside0.mk A350
         clear A350
         obtain rfl := Option.some.inj H
         go_wp2_with (first | (go_at_call 33; (with_reducible refine (calamuslaw11_lives.calls kj21  t318 _ A35.out).mono ?_); rintro e w36 ⟨rfl, hb⟩; replace HO_9 := Aside0.mk (Kd.R_below (rw_ HO_9.out) hb); replace BK301 := bb_ BK301 hb; replace BK312 := bb_ BK312 hb; replace HB := bs_ HB hb; (try clear hb); (try clear hb2); (try clear hk); (try clear hi)))
         repeat (go_quiet (first | (go_at_call 33; (with_reducible refine (calamuslaw11_lives.calls kj21  t318 _ A35.out).mono ?_); rintro e w36 ⟨rfl, hb⟩; replace HO_9 := Aside0.mk (Kd.R_below (rw_ HO_9.out) hb); replace BK301 := bb_ BK301 hb; replace BK312 := bb_ BK312 hb; replace HB := bs_ HB hb; (try clear hb); (try clear hb2); (try clear hk); (try clear hi))); try go_wp2_with (first | (go_at_call 33; (with_reducible refine (calamuslaw11_lives.calls kj21  t318 _ A35.out).mono ?_); rintro e w36 ⟨rfl, hb⟩; replace HO_9 := Aside0.mk (Kd.R_below (rw_ HO_9.out) hb); replace BK301 := bb_ BK301 hb; replace BK312 := bb_ BK312 hb; replace HB := bs_ HB hb; (try clear hb); (try clear hb2); (try clear hk); (try clear hi))))
         go_ret
         exact ⟨er_, hb_ HB⟩
        ·replace c34 := Bool.eq_false_iff.mpr c34
         subst c34
         have H1 : ((tree_Add.f kj21 l0_0 a0_1 t309 t310 t311 0 0).bind fun bt319 => ((tree_Texts.f kj21 bt319.1 bt319.2.1 t316).bind fun bt325 => (if bt319.2.2 = 0 then (if bt325.2 = 0 then ((tree_Right.f kj21 bt319.1 bt319.2.1).bind fun t329 => (if t329 = true then (if (bt325.1.length : Int) = (wrap64 ((t305.length : Int) + 1)) then (if bt319.2.1 = (t305.length : Int) then (if 0 ≤ bt319.2.1 then (if bt319.2.1 < (bt325.1.length : Int) then (calamuslaw11_TreeKeeps.j4 kj21 a1 t305 bt325.1 ((rdOf ByteArray.empty bt325.1 bt319.2.1).toList != t316.toList) l0_0 a0_1) else (none)) else (none)) else (calamuslaw11_TreeKeeps.j4 kj21 a1 t305 bt325.1 true l0_0 a0_1)) else (calamuslaw11_TreeKeeps.j4 kj21 a1 t305 bt325.1 true l0_0 a0_1)) else (calamuslaw11_TreeKeeps.j4 kj21 a1 t305 bt325.1 true l0_0 a0_1))) else (calamuslaw11_TreeKeeps.j4 kj21 a1 t305 bt325.1 true l0_0 a0_1)) else (calamuslaw11_TreeKeeps.j4 kj21 a1 t305 bt325.1 true l0_0 a0_1)))) = some r := by rw [if_neg (show ¬ (false = true) by decide)] at H; exact H
         clear H
         have H := H1
         clear H1
         replace H := Option.bind_eq_some_iff.mp H
         obtain ⟨⟨t319, t322, t323⟩, A370, H⟩ := H
         replace H : ((tree_Texts.f kj21 t319 t322 t316).bind fun bt325 => (if t323 = 0 then (if bt325.2 = 0 then ((tree_Right.f kj21 t319 t322).bind fun t329 => (if t329 = true then (if (bt325.1.length : Int) = (wrap64 ((t305.length : Int) + 1)) then (if t322 = (t305.length : Int) then (if 0 ≤ t322 then (if t322 < (bt325.1.length : Int) then (calamuslaw11_TreeKeeps.j4 kj21 a1 t305 bt325.1 ((rdOf ByteArray.empty bt325.1 t322).toList != t316.toList) l0_0 a0_1) else (none)) else (none)) else (calamuslaw11_TreeKeeps.j4 kj21 a1 t305 bt325.1 true l0_0 a0_1)) else (calamuslaw11_TreeKeeps.j4 kj21 a1 t305 bt325.1 true l0_0 a0_1)) else (calamuslaw11_TreeKeeps.j4 kj21 a1 t305 bt325.1 true l0_0 a0_1))) else (calamuslaw11_TreeKeeps.j4 kj21 a1 t305 bt325.1 true l0_0 a0_1)) else (calamuslaw11_TreeKeeps.j4 kj21 a1 t305 bt325.1 true l0_0 a0_1))) = some r := H
         have A37 := Aside0.mk A370
         clear A370
         replace H := Option.bind_eq_some_iff.mp H
         obtain ⟨⟨t325, t328⟩, A380, H⟩ := H
         replace H : (if t323 = 0 then (if t328 = 0 then ((tree_Right.f kj21 t319 t322).bind fun t329 => (if t329 = true then (if (t325.length : Int) = (wrap64 ((t305.length : Int) + 1)) then (if t322 = (t305.length : Int) then (if 0 ≤ t322 then (if t322 < (t325.length : Int) then (calamuslaw11_TreeKeeps.j4 kj21 a1 t305 t325 ((rdOf ByteArray.empty t325 t322).toList != t316.toList) l0_0 a0_1) else (none)) else (none)) else (calamuslaw11_TreeKeeps.j4 kj21 a1 t305 t325 true l0_0 a0_1)) else (calamuslaw11_TreeKeeps.j4 kj21 a1 t305 t325 true l0_0 a0_1)) else (calamuslaw11_TreeKeeps.j4 kj21 a1 t305 t325 true l0_0 a0_1))) else (calamuslaw11_TreeKeeps.j4 kj21 a1 t305 t325 true l0_0 a0_1)) else (calamuslaw11_TreeKeeps.j4 kj21 a1 t305 t325 true l0_0 a0_1)) = some r := H
         have A38 := Aside0.mk A380
         clear A380
         have HC39 := Aside0.mk H
         clear H
         have hnb40 := NB301_312.out
         have hnc40 := NB312_301.out
         obtain ⟨hcz41_0, hcz41_1, hfz41_0, hfz41_1⟩ := bc2_ BK301
         obtain ⟨hcz42_0, hcz42_1, hcz42_2, hfz42_0, hfz42_1, hfz42_2⟩ := bc3_ BK312
         go_upto_region 15 with (first | (go_at_call 34; (with_reducible refine (tree_Add.calls kj21 _ _ l0_0 a0_1 t309 t310 t311 0 0 t319 t322 t323 _ ?side1 ?side2 A37.out).mono ?_); (case side1 => exact cw_ (Kd.C_below HR0_0.out HB.out)); (case side2 => exact HC0_0.out); rintro e w43 ⟨v320, rfl, ho0, hb⟩; have HO321 := Aside0.mk (Kd.R_lower ho0 (below_size (hb_ HB))); replace HO_9 := Aside0.mk (Kd.R_below (rw_ HO_9.out) hb); replace BK301 := bb_ BK301 hb; replace BK312 := bb_ BK312 hb; replace HB := bs_ HB hb; (try clear hb); (try clear hb2); (try clear hk); (try clear hi); (try clear ho0)) | ((with_reducible refine gate_dst (N := 14) rfl ?_); (try (refine gate_guard (by rfl) ?_; dsimp only)); refine be_ (N := 14) (cs := #[.slice none 0 0, .int .i64 0]) (t := 46) (h := ?_); intro gb324 hg w44 hbox hb; have BK324 := Aside0.mk (hbox); have GW324 := gw_ HB hg; have GE324 := gw_ HB hg; have NB301_324 := ne_ BK301 hg; have NB324_301 := en_ BK301 hg; have NB312_324 := ne_ BK312 hg; have NB324_312 := en_ BK312 hg; replace HO_9 := Aside0.mk (Kd.R_below (rw_ HO_9.out) hb); replace HO321 := Aside0.mk (Kd.R_below (rw_ HO321.out) hb); replace BK301 := bb_ BK301 hb; replace BK312 := bb_ BK312 hb; replace HB := bs_ HB hb; clear hb hbox hg; obtain ⟨Ao45, co45, eo45⟩ := Kd.R_slice HO321.out; subst eo45; have hnb46 := NB324_301.out; have hnc46 := NB301_324.out; have hnb47 := NB324_312.out; have hnc47 := NB312_324.out; obtain ⟨hcz48_0, hcz48_1, hfz48_0, hfz48_1⟩ := bc2_ BK324) | (go_at_call 55; (with_reducible refine (tree_Texts.calls kj21 _ _ t319 t322 t316 t325 t328 _ ?side1 ?side2 A38.out).mono ?_); (case side1 => refine (Kd.R_reads' (e := 69) (base := w.heap.size) (ok := fun k_ => True) (n := t319.length) (c := co45) ?_).2.2; exact (by (with_reducible repeat (first | apply Kd.R_alloc | apply Kd.R_drewN | apply Kd.R_drew)); exact (Kd.R_mono (rf_ (Kd.R_types HO321.out BK324.out (by decide)) (fun _ hk => hk.2)) (fun _ h_ => h_.1)))); (case side2 => exact (Kd.R_reads' HO321.out).2.1); rintro e w49 ⟨v326, rfl, ho0, hb⟩; have HO327 := Aside0.mk (Kd.R_lower (Kd.R_new' ho0 (Kd.R_lt (by (with_reducible repeat (first | apply Kd.R_alloc | apply Kd.R_drewN | apply Kd.R_drew)); exact (Kd.R_mono (rf_ (Kd.R_types HO_9.out BK324.out (by decide)) (fun _ hk => hk.2)) (fun _ h_ => h_.1))))) (below_size (hb_ HB))); replace HO_9 := Aside0.mk (Kd.R_elder' (by (with_reducible repeat (first | apply Kd.R_alloc | apply Kd.R_drewN | apply Kd.R_drew)); exact (Kd.R_mono (rf_ (Kd.R_types HO_9.out BK324.out (by decide)) (fun _ hk => hk.2)) (fun _ h_ => h_.1))) (Kd.R_base ho0) hb); replace HO321 := Aside0.mk (Kd.R_below (by (with_reducible repeat (first | apply Kd.R_alloc | apply Kd.R_drewN | apply Kd.R_drew)); exact (Kd.R_mono (rf_ (Kd.R_types HO321.out BK324.out (by decide)) (fun _ hk => hk.2)) (fun _ h_ => h_.1))) hb); replace BK301 := Aside0.mk (blk_below (g := gb301) (o := .cells #[.slice A0_0 l0_0.length c0_0, .int .i64 a0_1] 46 (0, 0)) (bp_ BK301.out) hb); replace BK312 := Aside0.mk (blk_below (g := gb312) (o := .cells #[.int .i64 t309, .string t310, .string t311] 24 (0, 0)) (bp_ BK312.out) hb); replace HB := bs_ HB hb; replace BK324 := Aside0.mk (blk_below (g := gb324) (o := .cells #[.slice Ao45 t319.length co45, .int .i64 t322] 46 (0, 0)) (bp_ BK324.out) hb); (try clear hb); (try clear hb2); (try clear hk); (try clear hi); (try clear ho0)))
         repeat (go_quiet (first | (go_at_call 34; (with_reducible refine (tree_Add.calls kj21 _ _ l0_0 a0_1 t309 t310 t311 0 0 t319 t322 t323 _ ?side1 ?side2 A37.out).mono ?_); (case side1 => exact cw_ (Kd.C_below HR0_0.out HB.out)); (case side2 => exact HC0_0.out); rintro e w43 ⟨v320, rfl, ho0, hb⟩; have HO321 := Aside0.mk (Kd.R_lower ho0 (below_size (hb_ HB))); replace HO_9 := Aside0.mk (Kd.R_below (rw_ HO_9.out) hb); replace BK301 := bb_ BK301 hb; replace BK312 := bb_ BK312 hb; replace HB := bs_ HB hb; (try clear hb); (try clear hb2); (try clear hk); (try clear hi); (try clear ho0)) | ((with_reducible refine gate_dst (N := 14) rfl ?_); (try (refine gate_guard (by rfl) ?_; dsimp only)); refine be_ (N := 14) (cs := #[.slice none 0 0, .int .i64 0]) (t := 46) (h := ?_); intro gb324 hg w44 hbox hb; have BK324 := Aside0.mk (hbox); have GW324 := gw_ HB hg; have GE324 := gw_ HB hg; have NB301_324 := ne_ BK301 hg; have NB324_301 := en_ BK301 hg; have NB312_324 := ne_ BK312 hg; have NB324_312 := en_ BK312 hg; replace HO_9 := Aside0.mk (Kd.R_below (rw_ HO_9.out) hb); replace HO321 := Aside0.mk (Kd.R_below (rw_ HO321.out) hb); replace BK301 := bb_ BK301 hb; replace BK312 := bb_ BK312 hb; replace HB := bs_ HB hb; clear hb hbox hg; obtain ⟨Ao45, co45, eo45⟩ := Kd.R_slice HO321.out; subst eo45; have hnb46 := NB324_301.out; have hnc46 := NB301_324.out; have hnb47 := NB324_312.out; have hnc47 := NB312_324.out; obtain ⟨hcz48_0, hcz48_1, hfz48_0, hfz48_1⟩ := bc2_ BK324) | (go_at_call 55; (with_reducible refine (tree_Texts.calls kj21 _ _ t319 t322 t316 t325 t328 _ ?side1 ?side2 A38.out).mono ?_); (case side1 => refine (Kd.R_reads' (e := 69) (base := w.heap.size) (ok := fun k_ => True) (n := t319.length) (c := co45) ?_).2.2; exact (by (with_reducible repeat (first | apply Kd.R_alloc | apply Kd.R_drewN | apply Kd.R_drew)); exact (Kd.R_mono (rf_ (Kd.R_types HO321.out BK324.out (by decide)) (fun _ hk => hk.2)) (fun _ h_ => h_.1)))); (case side2 => exact (Kd.R_reads' HO321.out).2.1); rintro e w49 ⟨v326, rfl, ho0, hb⟩; have HO327 := Aside0.mk (Kd.R_lower (Kd.R_new' ho0 (Kd.R_lt (by (with_reducible repeat (first | apply Kd.R_alloc | apply Kd.R_drewN | apply Kd.R_drew)); exact (Kd.R_mono (rf_ (Kd.R_types HO_9.out BK324.out (by decide)) (fun _ hk => hk.2)) (fun _ h_ => h_.1))))) (below_size (hb_ HB))); replace HO_9 := Aside0.mk (Kd.R_elder' (by (with_reducible repeat (first | apply Kd.R_alloc | apply Kd.R_drewN | apply Kd.R_drew)); exact (Kd.R_mono (rf_ (Kd.R_types HO_9.out BK324.out (by decide)) (fun _ hk => hk.2)) (fun _ h_ => h_.1))) (Kd.R_base ho0) hb); replace HO321 := Aside0.mk (Kd.R_below (by (with_reducible repeat (first | apply Kd.R_alloc | apply Kd.R_drewN | apply Kd.R_drew)); exact (Kd.R_mono (rf_ (Kd.R_types HO321.out BK324.out (by decide)) (fun _ hk => hk.2)) (fun _ h_ => h_.1))) hb); replace BK301 := Aside0.mk (blk_below (g := gb301) (o := .cells #[.slice A0_0 l0_0.length c0_0, .int .i64 a0_1] 46 (0, 0)) (bp_ BK301.out) hb); replace BK312 := Aside0.mk (blk_below (g := gb312) (o := .cells #[.int .i64 t309, .string t310, .string t311] 24 (0, 0)) (bp_ BK312.out) hb); replace HB := bs_ HB hb; replace BK324 := Aside0.mk (blk_below (g := gb324) (o := .cells #[.slice Ao45 t319.length co45, .int .i64 t322] 46 (0, 0)) (bp_ BK324.out) hb); (try clear hb); (try clear hb2); (try clear hk); (try clear hi); (try clear ho0))); go_upto_region 15 with (first | (go_at_call 34; (with_reducible refine (tree_Add.calls kj21 _ _ l0_0 a0_1 t309 t310 t311 0 0 t319 t322 t323 _ ?side1 ?side2 A37.out).mono ?_); (case side1 => exact cw_ (Kd.C_below HR0_0.out HB.out)); (case side2 => exact HC0_0.out); rintro e w43 ⟨v320, rfl, ho0, hb⟩; have HO321 := Aside0.mk (Kd.R_lower ho0 (below_size (hb_ HB))); replace HO_9 := Aside0.mk (Kd.R_below (rw_ HO_9.out) hb); replace BK301 := bb_ BK301 hb; replace BK312 := bb_ BK312 hb; replace HB := bs_ HB hb; (try clear hb); (try clear hb2); (try clear hk); (try clear hi); (try clear ho0)) | ((with_reducible refine gate_dst (N := 14) rfl ?_); (try (refine gate_guard (by rfl) ?_; dsimp only)); refine be_ (N := 14) (cs := #[.slice none 0 0, .int .i64 0]) (t := 46) (h := ?_); intro gb324 hg w44 hbox hb; have BK324 := Aside0.mk (hbox); have GW324 := gw_ HB hg; have GE324 := gw_ HB hg; have NB301_324 := ne_ BK301 hg; have NB324_301 := en_ BK301 hg; have NB312_324 := ne_ BK312 hg; have NB324_312 := en_ BK312 hg; replace HO_9 := Aside0.mk (Kd.R_below (rw_ HO_9.out) hb); replace HO321 := Aside0.mk (Kd.R_below (rw_ HO321.out) hb); replace BK301 := bb_ BK301 hb; replace BK312 := bb_ BK312 hb; replace HB := bs_ HB hb; clear hb hbox hg; obtain ⟨Ao45, co45, eo45⟩ := Kd.R_slice HO321.out; subst eo45; have hnb46 := NB324_301.out; have hnc46 := NB301_324.out; have hnb47 := NB324_312.out; have hnc47 := NB312_324.out; obtain ⟨hcz48_0, hcz48_1, hfz48_0, hfz48_1⟩ := bc2_ BK324) | (go_at_call 55; (with_reducible refine (tree_Texts.calls kj21 _ _ t319 t322 t316 t325 t328 _ ?side1 ?side2 A38.out).mono ?_); (case side1 => refine (Kd.R_reads' (e := 69) (base := w.heap.size) (ok := fun k_ => True) (n := t319.length) (c := co45) ?_).2.2; exact (by (with_reducible repeat (first | apply Kd.R_alloc | apply Kd.R_drewN | apply Kd.R_drew)); exact (Kd.R_mono (rf_ (Kd.R_types HO321.out BK324.out (by decide)) (fun _ hk => hk.2)) (fun _ h_ => h_.1)))); (case side2 => exact (Kd.R_reads' HO321.out).2.1); rintro e w49 ⟨v326, rfl, ho0, hb⟩; have HO327 := Aside0.mk (Kd.R_lower (Kd.R_new' ho0 (Kd.R_lt (by (with_reducible repeat (first | apply Kd.R_alloc | apply Kd.R_drewN | apply Kd.R_drew)); exact (Kd.R_mono (rf_ (Kd.R_types HO_9.out BK324.out (by decide)) (fun _ hk => hk.2)) (fun _ h_ => h_.1))))) (below_size (hb_ HB))); replace HO_9 := Aside0.mk (Kd.R_elder' (by (with_reducible repeat (first | apply Kd.R_alloc | apply Kd.R_drewN | apply Kd.R_drew)); exact (Kd.R_mono (rf_ (Kd.R_types HO_9.out BK324.out (by decide)) (fun _ hk => hk.2)) (fun _ h_ => h_.1))) (Kd.R_base ho0) hb); replace HO321 := Aside0.mk (Kd.R_below (by (with_reducible repeat (first | apply Kd.R_alloc | apply Kd.R_drewN | apply Kd.R_drew)); exact (Kd.R_mono (rf_ (Kd.R_types HO321.out BK324.out (by decide)) (fun _ hk => hk.2)) (fun _ h_ => h_.1))) hb); replace BK301 := Aside0.mk (blk_below (g := gb301) (o := .cells #[.slice A0_0 l0_0.length c0_0, .int .i64 a0_1] 46 (0, 0)) (bp_ BK301.out) hb); replace BK312 := Aside0.mk (blk_below (g := gb312) (o := .cells #[.int .i64 t309, .string t310, .string t311] 24 (0, 0)) (bp_ BK312.out) hb); replace HB := bs_ HB hb; replace BK324 := Aside0.mk (blk_below (g := gb324) (o := .cells #[.slice Ao45 t319.length co45, .int .i64 t322] 46 (0, 0)) (bp_ BK324.out) hb); (try clear hb); (try clear hb2); (try clear hk); (try clear hi); (try clear ho0))))
         (try simp only [Act.put, List.setIfInBounds_toArray, List.set_cons_zero, List.set_cons_succ])
         go_cut [132] (fun v132 wc => ∃ (kq : Nat) (x132_38 : Bool), v132 = .bool x132_38 ∧ Aside0 (calamuslaw11_TreeKeeps.j4 kq a1 t305 t325 x132_38 l0_0 a0_1 = some r) ∧ Aside0 (kq ≤ kj21) ∧ Aside0 (Kd.R Kd.string 9 wc w.heap.size (fun k_ => some k_ ≠ (v326 : Value).ownBlock) v306 t305) ∧ Aside0 (Kd.R Kd.string 9 wc w.heap.size (fun k_ => some k_ ≠ (v306 : Value).ownBlock) v326 t325) ∧ Aside0 (Kd.R k69 69 wc w.heap.size (fun _ => True) (.slice Ao45 t319.length co45) t319) ∧ Aside0 (wc.heap[gb301]? = some (.cells #[(.slice A0_0 l0_0.length c0_0), .int .i64 a0_1] 46 (0, 0))) ∧ Aside0 (wc.heap[gb312]? = some (.cells #[.int .i64 t309, .string t310, .string t311] 24 (0, 0))) ∧ Aside0 (wc.heap[gb324]? = some (.cells #[(.slice Ao45 t319.length co45), .int .i64 t322] 46 (0, 0))) ∧ Aside0 (Below w.heap.size w wc))
         case first =>
          have H := HC39.out
          clear HC39
          by_cases c50 : t323 = 0
          ·rw [if_pos c50] at H
           have c50b0 : (t323 == 0) = true := beq_iff_eq.mpr c50
           have c50b1 : (t323 != 0) = false := bne_eq_false_iff_eq.mpr c50
           clear c50
           (first | rw [c50b0] | (simp only [i64_w, i32_w]; rw [c50b0]) | skip)
           by_cases c51 : t328 = 0
           ·rw [if_pos c51] at H
            have c51b0 : (t328 == 0) = true := beq_iff_eq.mpr c51
            have c51b1 : (t328 != 0) = false := bne_eq_false_iff_eq.mpr c51
            clear c51
            replace H := Option.bind_eq_some_iff.mp H
            obtain ⟨t329, A520, H⟩ := H
            replace H : (if t329 = true then (if (t325.length : Int) = (wrap64 ((t305.length : Int) + 1)) then (if t322 = (t305.length : Int) then (if 0 ≤ t322 then (if t322 < (t325.length : Int) then (calamuslaw11_TreeKeeps.j4 kj21 a1 t305 t325 ((rdOf ByteArray.empty t325 t322).toList != t316.toList) l0_0 a0_1) else (none)) else (none)) else (calamuslaw11_TreeKeeps.j4 kj21 a1 t305 t325 true l0_0 a0_1)) else (calamuslaw11_TreeKeeps.j4 kj21 a1 t305 t325 true l0_0 a0_1)) else (calamuslaw11_TreeKeeps.j4 kj21 a1 t305 t325 true l0_0 a0_1)) = some r := H
            have A52 := Aside0.mk A520
            clear A520
            by_cases c53 : t329 = true
            ·subst c53
             have H1 : (if (t325.length : Int) = (wrap64 ((t305.length : Int) + 1)) then (if t322 = (t305.length : Int) then (if 0 ≤ t322 then (if t322 < (t325.length : Int) then (calamuslaw11_TreeKeeps.j4 kj21 a1 t305 t325 ((rdOf ByteArray.empty t325 t322).toList != t316.toList) l0_0 a0_1) else (none)) else (none)) else (calamuslaw11_TreeKeeps.j4 kj21 a1 t305 t325 true l0_0 a0_1)) else (calamuslaw11_TreeKeeps.j4 kj21 a1 t305 t325 true l0_0 a0_1)) = some r := by rw [if_pos rfl] at H; exact H
             clear H
             have H := H1
             clear H1
             by_cases c54 : (t325.length : Int) = (wrap64 ((t305.length : Int) + 1))
             ·rw [if_pos c54] at H
              have c54b0 : ((t325.length : Int) == (wrap64 ((t305.length : Int) + 1))) = true := beq_iff_eq.mpr c54
              have c54b1 : ((t325.length : Int) != (wrap64 ((t305.length : Int) + 1))) = false := bne_eq_false_iff_eq.mpr c54
              clear c54
              by_cases c55 : t322 = (t305.length : Int)
              ·rw [if_pos c55] at H
               have c55b0 : (t322 == (t305.length : Int)) = true := beq_iff_eq.mpr c55
               have c55b1 : (t322 != (t305.length : Int)) = false := bne_eq_false_iff_eq.mpr c55
               clear c55
               by_cases c56 : 0 ≤ t322
               ·rw [if_pos c56] at H
                have c56b0 : decide (0 ≤ t322) = true := decide_eq_true c56
                clear c56
                by_cases c57 : t322 < (t325.length : Int)
                ·rw [if_pos c57] at H
                 have c57b0 : decide (t322 < (t325.length : Int)) = true := decide_eq_true c57
                 clear c57
                 have H' := Aside0.mk H
                 clear H
                 have hnb58 := NB324_301.out
                 have hnc58 := NB301_324.out
                 have hnb59 := NB324_312.out
                 have hnc59 := NB312_324.out
                 obtain ⟨hcz60_0, hcz60_1, hfz60_0, hfz60_1⟩ := bc2_ BK324
                 go_wp2_with (first | (go_at_call 36; (with_reducible refine (tree_Right.calls kj21 _ _ t319 t322 true _ ?side1 ?side2 A52.out).mono ?_); (case side1 => repeat (first | exact (Kd.R_reads' HO321.out).2.2 | (with_reducible refine Kd.C_alloc ?_ _) | (with_reducible refine Kd.C_drewN ?_ _) | (with_reducible refine Kd.C_drew ?_))); (case side2 => exact (Kd.R_reads' HO321.out).2.1); rintro e w61 ⟨rfl, hb⟩; replace HO_9 := Aside0.mk (Kd.R_below (rw_ HO_9.out) hb); replace HO321 := Aside0.mk (Kd.R_below (rw_ HO321.out) hb); replace HO327 := Aside0.mk (Kd.R_below (rw_ HO327.out) hb); replace BK301 := bb_ BK301 hb; replace BK312 := bb_ BK312 hb; replace BK324 := bb_ BK324 hb; replace HB := bs_ HB hb; (try clear hb); (try clear hb2); (try clear hk); (try clear hi); obtain ⟨Ao62, co62, eo62⟩ := Kd.R_slice HO327.out; subst eo62; obtain ⟨Ao63, co63, eo63⟩ := Kd.R_slice HO_9.out; subst eo63; obtain ⟨hcz64_0, hcz64_1, hfz64_0, hfz64_1⟩ := bc2_ BK324; have p330 : 0 ≤ (t322 : Int) := of_decide_eq_true as_; have q330 : t322 < (t325.length : Int) := of_decide_eq_true as_; obtain ⟨ad330, e330, hx330_0⟩ := Kd.at_string (Kd.R_reads' HO327.out).2.2 t322 p330 q330; cases e330; replace p330 := eq_true p330; replace q330 := eq_true q330))
                 repeat (go_quiet (first | (go_at_call 36; (with_reducible refine (tree_Right.calls kj21 _ _ t319 t322 true _ ?side1 ?side2 A52.out).mono ?_); (case side1 => repeat (first | exact (Kd.R_reads' HO321.out).2.2 | (with_reducible refine Kd.C_alloc ?_ _) | (with_reducible refine Kd.C_drewN ?_ _) | (with_reducible refine Kd.C_drew ?_))); (case side2 => exact (Kd.R_reads' HO321.out).2.1); rintro e w61 ⟨rfl, hb⟩; replace HO_9 := Aside0.mk (Kd.R_below (rw_ HO_9.out) hb); replace HO321 := Aside0.mk (Kd.R_below (rw_ HO321.out) hb); replace HO327 := Aside0.mk (Kd.R_below (rw_ HO327.out) hb); replace BK301 := bb_ BK301 hb; replace BK312 := bb_ BK312 hb; replace BK324 := bb_ BK324 hb; replace HB := bs_ HB hb; (try clear hb); (try clear hb2); (try clear hk); (try clear hi); obtain ⟨Ao62, co62, eo62⟩ := Kd.R_slice HO327.out; subst eo62; obtain ⟨Ao63, co63, eo63⟩ := Kd.R_slice HO_9.out; subst eo63; obtain ⟨hcz64_0, hcz64_1, hfz64_0, hfz64_1⟩ := bc2_ BK324; have p330 : 0 ≤ (t322 : Int) := of_decide_eq_true as_; have q330 : t322 < (t325.length : Int) := of_decide_eq_true as_; obtain ⟨ad330, e330, hx330_0⟩ := Kd.at_string (Kd.R_reads' HO327.out).2.2 t322 p330 q330; cases e330; replace p330 := eq_true p330; replace q330 := eq_true q330)); try go_wp2_with (first | (go_at_call 36; (with_reducible refine (tree_Right.calls kj21 _ _ t319 t322 true _ ?side1 ?side2 A52.out).mono ?_); (case side1 => repeat (first | exact (Kd.R_reads' HO321.out).2.2 | (with_reducible refine Kd.C_alloc ?_ _) | (with_reducible refine Kd.C_drewN ?_ _) | (with_reducible refine Kd.C_drew ?_))); (case side2 => exact (Kd.R_reads' HO321.out).2.1); rintro e w61 ⟨rfl, hb⟩; replace HO_9 := Aside0.mk (Kd.R_below (rw_ HO_9.out) hb); replace HO321 := Aside0.mk (Kd.R_below (rw_ HO321.out) hb); replace HO327 := Aside0.mk (Kd.R_below (rw_ HO327.out) hb); replace BK301 := bb_ BK301 hb; replace BK312 := bb_ BK312 hb; replace BK324 := bb_ BK324 hb; replace HB := bs_ HB hb; (try clear hb); (try clear hb2); (try clear hk); (try clear hi); obtain ⟨Ao62, co62, eo62⟩ := Kd.R_slice HO327.out; subst eo62; obtain ⟨Ao63, co63, eo63⟩ := Kd.R_slice HO_9.out; subst eo63; obtain ⟨hcz64_0, hcz64_1, hfz64_0, hfz64_1⟩ := bc2_ BK324; have p330 : 0 ≤ (t322 : Int) := of_decide_eq_true as_; have q330 : t322 < (t325.length : Int) := of_decide_eq_true as_; obtain ⟨ad330, e330, hx330_0⟩ := Kd.at_string (Kd.R_reads' HO327.out).2.2 t322 p330 q330; cases e330; replace p330 := eq_true p330; replace q330 := eq_true q330)))
                 go_meet
                 case rel => exact ⟨_, (((rdOf ByteArray.empty t325 t322).toList != t316.toList)), es_, H', ⟨by have := HJ3.out; have := HJ11.out; have := HJ21.out; first | omega | exact Nat.le_refl _⟩, ⟨by (with_reducible repeat (first | apply Kd.R_alloc | apply Kd.R_drewN | apply Kd.R_drew)); exact Kd.R_mono HO_9.out (fun _ hk => hk.2)⟩, ⟨by (with_reducible repeat (first | apply Kd.R_alloc | apply Kd.R_drewN | apply Kd.R_drew)); exact Kd.R_mono HO327.out (fun _ hk => hk.2)⟩, ⟨rw_ HO321.out⟩, ⟨bw_ BK301.out⟩, ⟨bw_ BK312.out⟩, ⟨bw_ BK324.out⟩, ⟨hb_ HB⟩⟩
                ·rw [if_neg c57] at H
                 exact absurd H (by simp)
               ·rw [if_neg c56] at H
                exact absurd H (by simp)
              ·rw [if_neg c55] at H
               have c55b0 : (t322 == (t305.length : Int)) = false := beq_eq_false_iff_ne.mpr c55
               have c55b1 : (t322 != (t305.length : Int)) = true := bne_iff_ne.mpr c55
               have H' := Aside0.mk H
               clear H
               have hnb65 := NB324_301.out
               have hnc65 := NB301_324.out
               have hnb66 := NB324_312.out
               have hnc66 := NB312_324.out
               obtain ⟨hcz67_0, hcz67_1, hfz67_0, hfz67_1⟩ := bc2_ BK324
               go_wp2_with (first | (go_at_call 36; (with_reducible refine (tree_Right.calls kj21 _ _ t319 t322 true _ ?side1 ?side2 A52.out).mono ?_); (case side1 => repeat (first | exact (Kd.R_reads' HO321.out).2.2 | (with_reducible refine Kd.C_alloc ?_ _) | (with_reducible refine Kd.C_drewN ?_ _) | (with_reducible refine Kd.C_drew ?_))); (case side2 => exact (Kd.R_reads' HO321.out).2.1); rintro e w68 ⟨rfl, hb⟩; replace HO_9 := Aside0.mk (Kd.R_below (rw_ HO_9.out) hb); replace HO321 := Aside0.mk (Kd.R_below (rw_ HO321.out) hb); replace HO327 := Aside0.mk (Kd.R_below (rw_ HO327.out) hb); replace BK301 := bb_ BK301 hb; replace BK312 := bb_ BK312 hb; replace BK324 := bb_ BK324 hb; replace HB := bs_ HB hb; (try clear hb); (try clear hb2); (try clear hk); (try clear hi); obtain ⟨Ao69, co69, eo69⟩ := Kd.R_slice HO327.out; subst eo69; obtain ⟨Ao70, co70, eo70⟩ := Kd.R_slice HO_9.out; subst eo70; obtain ⟨hcz71_0, hcz71_1, hfz71_0, hfz71_1⟩ := bc2_ BK324))
               repeat (go_quiet (first | (go_at_call 36; (with_reducible refine (tree_Right.calls kj21 _ _ t319 t322 true _ ?side1 ?side2 A52.out).mono ?_); (case side1 => repeat (first | exact (Kd.R_reads' HO321.out).2.2 | (with_reducible refine Kd.C_alloc ?_ _) | (with_reducible refine Kd.C_drewN ?_ _) | (with_reducible refine Kd.C_drew ?_))); (case side2 => exact (Kd.R_reads' HO321.out).2.1); rintro e w68 ⟨rfl, hb⟩; replace HO_9 := Aside0.mk (Kd.R_below (rw_ HO_9.out) hb); replace HO321 := Aside0.mk (Kd.R_below (rw_ HO321.out) hb); replace HO327 := Aside0.mk (Kd.R_below (rw_ HO327.out) hb); replace BK301 := bb_ BK301 hb; replace BK312 := bb_ BK312 hb; replace BK324 := bb_ BK324 hb; replace HB := bs_ HB hb; (try clear hb); (try clear hb2); (try clear hk); (try clear hi); obtain ⟨Ao69, co69, eo69⟩ := Kd.R_slice HO327.out; subst eo69; obtain ⟨Ao70, co70, eo70⟩ := Kd.R_slice HO_9.out; subst eo70; obtain ⟨hcz71_0, hcz71_1, hfz71_0, hfz71_1⟩ := bc2_ BK324)); try go_wp2_with (first | (go_at_call 36; (with_reducible refine (tree_Right.calls kj21 _ _ t319 t322 true _ ?side1 ?side2 A52.out).mono ?_); (case side1 => repeat (first | exact (Kd.R_reads' HO321.out).2.2 | (with_reducible refine Kd.C_alloc ?_ _) | (with_reducible refine Kd.C_drewN ?_ _) | (with_reducible refine Kd.C_drew ?_))); (case side2 => exact (Kd.R_reads' HO321.out).2.1); rintro e w68 ⟨rfl, hb⟩; replace HO_9 := Aside0.mk (Kd.R_below (rw_ HO_9.out) hb); replace HO321 := Aside0.mk (Kd.R_below (rw_ HO321.out) hb); replace HO327 := Aside0.mk (Kd.R_below (rw_ HO327.out) hb); replace BK301 := bb_ BK301 hb; replace BK312 := bb_ BK312 hb; replace BK324 := bb_ BK324 hb; replace HB := bs_ HB hb; (try clear hb); (try clear hb2); (try clear hk); (try clear hi); obtain ⟨Ao69, co69, eo69⟩ := Kd.R_slice HO327.out; subst eo69; obtain ⟨Ao70, co70, eo70⟩ := Kd.R_slice HO_9.out; subst eo70; obtain ⟨hcz71_0, hcz71_1, hfz71_0, hfz71_1⟩ := bc2_ BK324)))
               go_meet
               case rel => exact ⟨_, (true), es_, H', ⟨by have := HJ3.out; have := HJ11.out; have := HJ21.out; first | omega | exact Nat.le_refl _⟩, ⟨by (with_reducible repeat (first | apply Kd.R_alloc | apply Kd.R_drewN | apply Kd.R_drew)); exact Kd.R_mono HO_9.out (fun _ hk => hk.2)⟩, ⟨by (with_reducible repeat (first | apply Kd.R_alloc | apply Kd.R_drewN | apply Kd.R_drew)); exact Kd.R_mono HO327.out (fun _ hk => hk.2)⟩, ⟨rw_ HO321.out⟩, ⟨bw_ BK301.out⟩, ⟨bw_ BK312.out⟩, ⟨bw_ BK324.out⟩, ⟨hb_ HB⟩⟩
             ·rw [if_neg c54] at H
              have c54b0 : ((t325.length : Int) == (wrap64 ((t305.length : Int) + 1))) = false := beq_eq_false_iff_ne.mpr c54
              have c54b1 : ((t325.length : Int) != (wrap64 ((t305.length : Int) + 1))) = true := bne_iff_ne.mpr c54
              have H' := Aside0.mk H
              clear H
              have hnb72 := NB324_301.out
              have hnc72 := NB301_324.out
              have hnb73 := NB324_312.out
              have hnc73 := NB312_324.out
              obtain ⟨hcz74_0, hcz74_1, hfz74_0, hfz74_1⟩ := bc2_ BK324
              go_wp2_with (first | (go_at_call 36; (with_reducible refine (tree_Right.calls kj21 _ _ t319 t322 true _ ?side1 ?side2 A52.out).mono ?_); (case side1 => repeat (first | exact (Kd.R_reads' HO321.out).2.2 | (with_reducible refine Kd.C_alloc ?_ _) | (with_reducible refine Kd.C_drewN ?_ _) | (with_reducible refine Kd.C_drew ?_))); (case side2 => exact (Kd.R_reads' HO321.out).2.1); rintro e w75 ⟨rfl, hb⟩; replace HO_9 := Aside0.mk (Kd.R_below (rw_ HO_9.out) hb); replace HO321 := Aside0.mk (Kd.R_below (rw_ HO321.out) hb); replace HO327 := Aside0.mk (Kd.R_below (rw_ HO327.out) hb); replace BK301 := bb_ BK301 hb; replace BK312 := bb_ BK312 hb; replace BK324 := bb_ BK324 hb; replace HB := bs_ HB hb; (try clear hb); (try clear hb2); (try clear hk); (try clear hi); obtain ⟨Ao76, co76, eo76⟩ := Kd.R_slice HO327.out; subst eo76; obtain ⟨Ao77, co77, eo77⟩ := Kd.R_slice HO_9.out; subst eo77))
              repeat (go_quiet (first | (go_at_call 36; (with_reducible refine (tree_Right.calls kj21 _ _ t319 t322 true _ ?side1 ?side2 A52.out).mono ?_); (case side1 => repeat (first | exact (Kd.R_reads' HO321.out).2.2 | (with_reducible refine Kd.C_alloc ?_ _) | (with_reducible refine Kd.C_drewN ?_ _) | (with_reducible refine Kd.C_drew ?_))); (case side2 => exact (Kd.R_reads' HO321.out).2.1); rintro e w75 ⟨rfl, hb⟩; replace HO_9 := Aside0.mk (Kd.R_below (rw_ HO_9.out) hb); replace HO321 := Aside0.mk (Kd.R_below (rw_ HO321.out) hb); replace HO327 := Aside0.mk (Kd.R_below (rw_ HO327.out) hb); replace BK301 := bb_ BK301 hb; replace BK312 := bb_ BK312 hb; replace BK324 := bb_ BK324 hb; replace HB := bs_ HB hb; (try clear hb); (try clear hb2); (try clear hk); (try clear hi); obtain ⟨Ao76, co76, eo76⟩ := Kd.R_slice HO327.out; subst eo76; obtain ⟨Ao77, co77, eo77⟩ := Kd.R_slice HO_9.out; subst eo77)); try go_wp2_with (first | (go_at_call 36; (with_reducible refine (tree_Right.calls kj21 _ _ t319 t322 true _ ?side1 ?side2 A52.out).mono ?_); (case side1 => repeat (first | exact (Kd.R_reads' HO321.out).2.2 | (with_reducible refine Kd.C_alloc ?_ _) | (with_reducible refine Kd.C_drewN ?_ _) | (with_reducible refine Kd.C_drew ?_))); (case side2 => exact (Kd.R_reads' HO321.out).2.1); rintro e w75 ⟨rfl, hb⟩; replace HO_9 := Aside0.mk (Kd.R_below (rw_ HO_9.out) hb); replace HO321 := Aside0.mk (Kd.R_below (rw_ HO321.out) hb); replace HO327 := Aside0.mk (Kd.R_below (rw_ HO327.out) hb); replace BK301 := bb_ BK301 hb; replace BK312 := bb_ BK312 hb; replace BK324 := bb_ BK324 hb; replace HB := bs_ HB hb; (try clear hb); (try clear hb2); (try clear hk); (try clear hi); obtain ⟨Ao76, co76, eo76⟩ := Kd.R_slice HO327.out; subst eo76; obtain ⟨Ao77, co77, eo77⟩ := Kd.R_slice HO_9.out; subst eo77)))
              go_meet
              case rel => exact ⟨_, (true), es_, H', ⟨by have := HJ3.out; have := HJ11.out; have := HJ21.out; first | omega | exact Nat.le_refl _⟩, ⟨by (with_reducible repeat (first | apply Kd.R_alloc | apply Kd.R_drewN | apply Kd.R_drew)); exact Kd.R_mono HO_9.out (fun _ hk => hk.2)⟩, ⟨by (with_reducible repeat (first | apply Kd.R_alloc | apply Kd.R_drewN | apply Kd.R_drew)); exact Kd.R_mono HO327.out (fun _ hk => hk.2)⟩, ⟨rw_ HO321.out⟩, ⟨bw_ BK301.out⟩, ⟨bw_ BK312.out⟩, ⟨bw_ BK324.out⟩, ⟨hb_ HB⟩⟩
            ·replace c53 := Bool.eq_false_iff.mpr c53
             subst c53
             have H1 : (calamuslaw11_TreeKeeps.j4 kj21 a1 t305 t325 true l0_0 a0_1) = some r := by rw [if_neg (show ¬ (false = true) by decide)] at H; exact H
             clear H
             have H := H1
             clear H1
             have H' := Aside0.mk H
             clear H
             have hnb78 := NB324_301.out
             have hnc78 := NB301_324.out
             have hnb79 := NB324_312.out
             have hnc79 := NB312_324.out
             obtain ⟨hcz80_0, hcz80_1, hfz80_0, hfz80_1⟩ := bc2_ BK324
             go_wp2_with (first | (go_at_call 36; (with_reducible refine (tree_Right.calls kj21 _ _ t319 t322 false _ ?side1 ?side2 A52.out).mono ?_); (case side1 => repeat (first | exact (Kd.R_reads' HO321.out).2.2 | (with_reducible refine Kd.C_alloc ?_ _) | (with_reducible refine Kd.C_drewN ?_ _) | (with_reducible refine Kd.C_drew ?_))); (case side2 => exact (Kd.R_reads' HO321.out).2.1); rintro e w81 ⟨rfl, hb⟩; replace HO_9 := Aside0.mk (Kd.R_below (rw_ HO_9.out) hb); replace HO321 := Aside0.mk (Kd.R_below (rw_ HO321.out) hb); replace HO327 := Aside0.mk (Kd.R_below (rw_ HO327.out) hb); replace BK301 := bb_ BK301 hb; replace BK312 := bb_ BK312 hb; replace BK324 := bb_ BK324 hb; replace HB := bs_ HB hb; (try clear hb); (try clear hb2); (try clear hk); (try clear hi)))
             repeat (go_quiet (first | (go_at_call 36; (with_reducible refine (tree_Right.calls kj21 _ _ t319 t322 false _ ?side1 ?side2 A52.out).mono ?_); (case side1 => repeat (first | exact (Kd.R_reads' HO321.out).2.2 | (with_reducible refine Kd.C_alloc ?_ _) | (with_reducible refine Kd.C_drewN ?_ _) | (with_reducible refine Kd.C_drew ?_))); (case side2 => exact (Kd.R_reads' HO321.out).2.1); rintro e w81 ⟨rfl, hb⟩; replace HO_9 := Aside0.mk (Kd.R_below (rw_ HO_9.out) hb); replace HO321 := Aside0.mk (Kd.R_below (rw_ HO321.out) hb); replace HO327 := Aside0.mk (Kd.R_below (rw_ HO327.out) hb); replace BK301 := bb_ BK301 hb; replace BK312 := bb_ BK312 hb; replace BK324 := bb_ BK324 hb; replace HB := bs_ HB hb; (try clear hb); (try clear hb2); (try clear hk); (try clear hi))); try go_wp2_with (first | (go_at_call 36; (with_reducible refine (tree_Right.calls kj21 _ _ t319 t322 false _ ?side1 ?side2 A52.out).mono ?_); (case side1 => repeat (first | exact (Kd.R_reads' HO321.out).2.2 | (with_reducible refine Kd.C_alloc ?_ _) | (with_reducible refine Kd.C_drewN ?_ _) | (with_reducible refine Kd.C_drew ?_))); (case side2 => exact (Kd.R_reads' HO321.out).2.1); rintro e w81 ⟨rfl, hb⟩; replace HO_9 := Aside0.mk (Kd.R_below (rw_ HO_9.out) hb); replace HO321 := Aside0.mk (Kd.R_below (rw_ HO321.out) hb); replace HO327 := Aside0.mk (Kd.R_below (rw_ HO327.out) hb); replace BK301 := bb_ BK301 hb; replace BK312 := bb_ BK312 hb; replace BK324 := bb_ BK324 hb; replace HB := bs_ HB hb; (try clear hb); (try clear hb2); (try clear hk); (try clear hi))))
             go_meet
             case rel => exact ⟨_, (true), es_, H', ⟨by have := HJ3.out; have := HJ11.out; have := HJ21.out; first | omega | exact Nat.le_refl _⟩, ⟨by (with_reducible repeat (first | apply Kd.R_alloc | apply Kd.R_drewN | apply Kd.R_drew)); exact Kd.R_mono HO_9.out (fun _ hk => hk.2)⟩, ⟨by (with_reducible repeat (first | apply Kd.R_alloc | apply Kd.R_drewN | apply Kd.R_drew)); exact Kd.R_mono HO327.out (fun _ hk => hk.2)⟩, ⟨rw_ HO321.out⟩, ⟨bw_ BK301.out⟩, ⟨bw_ BK312.out⟩, ⟨bw_ BK324.out⟩, ⟨hb_ HB⟩⟩
           ·rw [if_neg c51] at H
            have c51b0 : (t328 == 0) = false := beq_eq_false_iff_ne.mpr c51
            have c51b1 : (t328 != 0) = true := bne_iff_ne.mpr c51
            have H' := Aside0.mk H
            clear H
            go_wp2
            repeat (go_quiet (fail); try go_wp2)
            go_meet
            case rel => exact ⟨_, (true), es_, H', ⟨by have := HJ3.out; have := HJ11.out; have := HJ21.out; first | omega | exact Nat.le_refl _⟩, ⟨by (with_reducible repeat (first | apply Kd.R_alloc | apply Kd.R_drewN | apply Kd.R_drew)); exact Kd.R_mono HO_9.out (fun _ hk => hk.2)⟩, ⟨by (with_reducible repeat (first | apply Kd.R_alloc | apply Kd.R_drewN | apply Kd.R_drew)); exact Kd.R_mono HO327.out (fun _ hk => hk.2)⟩, ⟨rw_ HO321.out⟩, ⟨bw_ BK301.out⟩, ⟨bw_ BK312.out⟩, ⟨bw_ BK324.out⟩, ⟨hb_ HB⟩⟩
          ·rw [if_neg c50] at H
           have c50b0 : (t323 == 0) = false := beq_eq_false_iff_ne.mpr c50
           have c50b1 : (t323 != 0) = true := bne_iff_ne.mpr c50
           (first | rw [c50b0] | (simp only [i64_w, i32_w]; rw [c50b0]) | skip)
           have H' := Aside0.mk H
           clear H
           go_wp2
           repeat (go_quiet (fail); try go_wp2)
           go_meet
           case rel => exact ⟨_, (true), es_, H', ⟨by have := HJ3.out; have := HJ11.out; have := HJ21.out; first | omega | exact Nat.le_refl _⟩, ⟨by (with_reducible repeat (first | apply Kd.R_alloc | apply Kd.R_drewN | apply Kd.R_drew)); exact Kd.R_mono HO_9.out (fun _ hk => hk.2)⟩, ⟨by (with_reducible repeat (first | apply Kd.R_alloc | apply Kd.R_drewN | apply Kd.R_drew)); exact Kd.R_mono HO327.out (fun _ hk => hk.2)⟩, ⟨rw_ HO321.out⟩, ⟨bw_ BK301.out⟩, ⟨bw_ BK312.out⟩, ⟨bw_ BK324.out⟩, ⟨hb_ HB⟩⟩
         case rest =>
          clear HC39
          try clear c16
          try clear c34
          try clear hcz23_0
          try clear hcz23_1
          try clear hcz28_0
          try clear hcz28_1
          try clear hcz28_2
          try clear hcz41_0
          try clear hcz41_1
          try clear hcz42_0
          try clear hcz42_1
          try clear hcz42_2
          try clear hcz48_0
          try clear hcz48_1
          try clear hfz23_0
          try clear hfz23_1
          try clear hfz28_0
          try clear hfz28_1
          try clear hfz28_2
          try clear hfz41_0
          try clear hfz41_1
          try clear hfz42_0
          try clear hfz42_1
          try clear hfz42_2
          try clear hfz48_0
          try clear hfz48_1
          obtain ⟨kq, x132_38, rfl, HA, HJ38, HO_9, HO_16, HO_325000, BK301, BK312, BK324, HB⟩ := hcut
          cases kq with
          | zero => exact absurd HA.out (by simp [calamuslaw11_TreeKeeps.j4])
          | succ kj38 =>
           have H := HA.out
           clear HA
           simp only [calamuslaw11_TreeKeeps.j4] at H
           by_cases c82 : x132_38 = true
           ·subst c82
            have H1 : (some false) = some r := by rw [if_pos rfl] at H; exact H
            clear H
            have H := H1
            clear H1
            exact nf_ H hr_
           ·replace c82 := Bool.eq_false_iff.mpr c82
            subst c82
            have H1 : (calamuslaw11_TreeKeeps.l1 kj38 a1 t305 t325 0 l0_0 a0_1) = some r := by rw [if_neg (show ¬ (false = true) by decide)] at H; exact H
            clear H
            have H := H1
            clear H1
            have H' := Aside0.mk H
            clear H
            go_wp2
            repeat (go_quiet (fail); try go_wp2)
            go_loopg [18] kj38 (fun kq v18 w' => ∃ (x18_5 : Int), v18 = .int .i64 x18_5 ∧ Aside0 (calamuslaw11_TreeKeeps.l1 kq a1 t305 t325 x18_5 l0_0 a0_1 = some r) ∧ Aside0 (kq ≤ kj38) ∧ Aside0 (Kd.R Kd.string 9 w' w.heap.size (fun k_ => some k_ ≠ (v326 : Value).ownBlock) v306 t305) ∧ Aside0 (Kd.R Kd.string 9 w' w.heap.size (fun k_ => some k_ ≠ (v306 : Value).ownBlock) v326 t325) ∧ Aside0 (Kd.R k69 69 w' w.heap.size (fun _ => True) (.slice Ao45 t319.length co45) t319) ∧ Aside0 (w'.heap[gb301]? = some (.cells #[(.slice A0_0 l0_0.length c0_0), .int .i64 a0_1] 46 (0, 0))) ∧ Aside0 (w'.heap[gb312]? = some (.cells #[.int .i64 t309, .string t310, .string t311] 24 (0, 0))) ∧ Aside0 (w'.heap[gb324]? = some (.cells #[(.slice Ao45 t319.length co45), .int .i64 t322] 46 (0, 0))) ∧ Aside0 (Below w.heap.size w w'))
            case atStart => exact ⟨(0), es_, H', ⟨Nat.le_refl _⟩, ⟨rw_ HO_9.out⟩, ⟨rw_ HO_16.out⟩, ⟨rw_ HO_325000.out⟩, ⟨bw_ BK301.out⟩, ⟨bw_ BK312.out⟩, ⟨bw_ BK324.out⟩, ⟨hb_ HB⟩⟩
            case round =>
             clear H'
             try clear c16
             try clear c34
             try clear c82
             try clear hcz23_0
             try clear hcz23_1
             try clear hcz28_0
             try clear hcz28_1
             try clear hcz28_2
             try clear hcz41_0
             try clear hcz41_1
             try clear hcz42_0
             try clear hcz42_1
             try clear hcz42_2
             try clear hcz48_0
             try clear hcz48_1
             try clear hfz23_0
             try clear hfz23_1
             try clear hfz28_0
             try clear hfz28_1
             try clear hfz28_2
             try clear hfz41_0
             try clear hfz41_1
             try clear hfz42_0
             try clear hfz42_1
             try clear hfz42_2
             try clear hfz48_0
             try clear hfz48_1
             obtain ⟨x18_5, rfl, HA, HK5, HO_9, HO_16, HO_325000, BK301, BK312, BK324, HB⟩ := hrel
             cases gk with
             | zero => exact absurd HA.out (by simp [calamuslaw11_TreeKeeps.l1])
             | succ k5 =>
              have H := HA.out
              clear HA
              simp only [calamuslaw11_TreeKeeps.l1] at H
              by_cases c83 : x18_5 < (t305.length : Int)
              ·rw [if_pos c83] at H
               have c83b0 : decide (x18_5 < (t305.length : Int)) = true := decide_eq_true c83
               clear c83
               by_cases c84 : 0 ≤ x18_5
               ·rw [if_pos c84] at H
                have c84b0 : decide (0 ≤ x18_5) = true := decide_eq_true c84
                clear c84
                by_cases c85 : x18_5 < (t325.length : Int)
                ·rw [if_pos c85] at H
                 have c85b0 : decide (x18_5 < (t325.length : Int)) = true := decide_eq_true c85
                 clear c85
                 by_cases c86 : (rdOf ByteArray.empty t305 x18_5).toList = (rdOf ByteArray.empty t325 x18_5).toList
                 ·rw [if_pos c86] at H
                  have c86b0 : ((rdOf ByteArray.empty t305 x18_5).toList == (rdOf ByteArray.empty t325 x18_5).toList) = true := beq_iff_eq.mpr c86
                  have c86b1 : ((rdOf ByteArray.empty t305 x18_5).toList != (rdOf ByteArray.empty t325 x18_5).toList) = false := bne_eq_false_iff_eq.mpr c86
                  clear c86
                  have H' := Aside0.mk H
                  clear H
                  obtain ⟨Ao87, co87, eo87⟩ := Kd.R_slice HO_9.out
                  subst eo87
                  have p331 : 0 ≤ (x18_5 : Int) := of_decide_eq_true as_
                  have q331 : x18_5 < (t305.length : Int) := of_decide_eq_true as_
                  obtain ⟨ad331, e331, hx331_0⟩ := Kd.at_string (Kd.R_reads' HO_9.out).2.2 x18_5 p331 q331
                  cases e331
                  replace p331 := eq_true p331
                  replace q331 := eq_true q331
                  obtain ⟨Ao88, co88, eo88⟩ := Kd.R_slice HO_16.out
                  subst eo88
                  have p332 : 0 ≤ (x18_5 : Int) := of_decide_eq_true as_
                  have q332 : x18_5 < (t325.length : Int) := of_decide_eq_true as_
                  obtain ⟨ad332, e332, hx332_0⟩ := Kd.at_string (Kd.R_reads' HO_16.out).2.2 x18_5 p332 q332
                  cases e332
                  replace p332 := eq_true p332
                  replace q332 := eq_true q332
                  go_wp2
                  repeat (go_quiet (fail); try go_wp2)
                  go_roundg k5
                  case measure => have := HJ3.out; have := HJ11.out; have := HJ21.out; have := HJ38.out; have := HK5.out; omega
                  case rel => exact ⟨(wrap64 (x18_5 + 1)), es_, H', ⟨by have := HJ3.out; have := HJ11.out; have := HJ21.out; have := HJ38.out; have := HK5.out; omega⟩, ⟨rw_ HO_9.out⟩, ⟨rw_ HO_16.out⟩, ⟨rw_ HO_325000.out⟩, ⟨bw_ BK301.out⟩, ⟨bw_ BK312.out⟩, ⟨bw_ BK324.out⟩, ⟨hb_ HB⟩⟩
                 ·rw [if_neg c86] at H
                  have c86b0 : ((rdOf ByteArray.empty t305 x18_5).toList == (rdOf ByteArray.empty t325 x18_5).toList) = false := beq_eq_false_iff_ne.mpr c86
                  have c86b1 : ((rdOf ByteArray.empty t305 x18_5).toList != (rdOf ByteArray.empty t325 x18_5).toList) = true := bne_iff_ne.mpr c86
                  exact nf_ H hr_
                ·rw [if_neg c85] at H
                 exact absurd H (by simp)
               ·rw [if_neg c84] at H
                exact absurd H (by simp)
              ·rw [if_neg c83] at H
               have c83b0 : decide (x18_5 < (t305.length : Int)) = false := decide_eq_false c83
               clear c83
               by_cases c91 : 0 ≤ a0_1
               ·rw [if_pos c91] at H
                have c91b0 : decide (0 ≤ a0_1) = true := decide_eq_true c91
                clear c91
                by_cases c92 : a0_1 < (t305.length : Int)
                ·rw [if_pos c92] at H
                 have c92b0 : decide (a0_1 < (t305.length : Int)) = true := decide_eq_true c92
                 clear c92
                 by_cases c93 : (rdOf ByteArray.empty t305 a0_1).toList = a1.toList
                 ·rw [if_pos c93] at H
                  have c93b0 : ((rdOf ByteArray.empty t305 a0_1).toList == a1.toList) = true := beq_iff_eq.mpr c93
                  have c93b1 : ((rdOf ByteArray.empty t305 a0_1).toList != a1.toList) = false := bne_eq_false_iff_eq.mpr c93
                  clear c93
                  replace H := Option.bind_eq_some_iff.mp H
                  obtain ⟨t334, A940, H⟩ := H
                  replace H : (some t334) = some r := H
                  have A94 := Aside0.mk A940
                  clear A940
                  obtain rfl := Option.some.inj H
                  obtain ⟨Ao95, co95, eo95⟩ := Kd.R_slice HO_9.out
                  subst eo95
                  have hnb96 := NB301_312.out
                  have hnc96 := NB312_301.out
                  have hnb97 := NB301_324.out
                  have hnc97 := NB324_301.out
                  obtain ⟨hcz98_0, hcz98_1, hfz98_0, hfz98_1⟩ := bc2_ BK301
                  have p333 : 0 ≤ (a0_1 : Int) := of_decide_eq_true as_
                  have q333 : a0_1 < (t305.length : Int) := of_decide_eq_true as_
                  obtain ⟨ad333, e333, hx333_0⟩ := Kd.at_string (Kd.R_reads' HO_9.out).2.2 a0_1 p333 q333
                  cases e333
                  replace p333 := eq_true p333
                  replace q333 := eq_true q333
                  go_wp2_with (first | (go_at_call 33; (with_reducible refine (calamuslaw11_lives.calls k5  t334 _ A94.out).mono ?_); rintro e w99 ⟨rfl, hb⟩; replace HO_9 := Aside0.mk (Kd.R_below (rw_ HO_9.out) hb); replace HO_16 := Aside0.mk (Kd.R_below (rw_ HO_16.out) hb); replace HO_325000 := Aside0.mk (Kd.R_below (rw_ HO_325000.out) hb); replace BK301 := bb_ BK301 hb; replace BK312 := bb_ BK312 hb; replace BK324 := bb_ BK324 hb; replace HB := bs_ HB hb; (try clear hb); (try clear hb2); (try clear hk); (try clear hi)))
                  repeat (go_quiet (first | (go_at_call 33; (with_reducible refine (calamuslaw11_lives.calls k5  t334 _ A94.out).mono ?_); rintro e w99 ⟨rfl, hb⟩; replace HO_9 := Aside0.mk (Kd.R_below (rw_ HO_9.out) hb); replace HO_16 := Aside0.mk (Kd.R_below (rw_ HO_16.out) hb); replace HO_325000 := Aside0.mk (Kd.R_below (rw_ HO_325000.out) hb); replace BK301 := bb_ BK301 hb; replace BK312 := bb_ BK312 hb; replace BK324 := bb_ BK324 hb; replace HB := bs_ HB hb; (try clear hb); (try clear hb2); (try clear hk); (try clear hi))); try go_wp2_with (first | (go_at_call 33; (with_reducible refine (calamuslaw11_lives.calls k5  t334 _ A94.out).mono ?_); rintro e w99 ⟨rfl, hb⟩; replace HO_9 := Aside0.mk (Kd.R_below (rw_ HO_9.out) hb); replace HO_16 := Aside0.mk (Kd.R_below (rw_ HO_16.out) hb); replace HO_325000 := Aside0.mk (Kd.R_below (rw_ HO_325000.out) hb); replace BK301 := bb_ BK301 hb; replace BK312 := bb_ BK312 hb; replace BK324 := bb_ BK324 hb; replace HB := bs_ HB hb; (try clear hb); (try clear hb2); (try clear hk); (try clear hi))))
                  go_ret
                  exact ⟨er_, hb_ HB⟩
                 ·rw [if_neg c93] at H
                  have c93b0 : ((rdOf ByteArray.empty t305 a0_1).toList == a1.toList) = false := beq_eq_false_iff_ne.mpr c93
                  have c93b1 : ((rdOf ByteArray.empty t305 a0_1).toList != a1.toList) = true := bne_iff_ne.mpr c93
                  exact nf_ H hr_
                ·rw [if_neg c92] at H
                 exact absurd H (by simp)
               ·rw [if_neg c91] at H
                exact absurd H (by simp)

end Go.Proofs.Ytkiokimpblimcaa.PTreeKeeps
