/- Of the law calamus/calamuslaw11.TreeGoes: what each function that it reaches tells, as a plain Lean function with a proof that the call comes to it; the row out of that. By a program of this repo (wip/tpl/own_print.py). Conditions: none but the row's own. -/
import Derived.Test.YtkiokimpblimcaaOTreeGoesx0
import Derived.Test.YtkiokimpblimcaaOTreeGoesx10
import Derived.Test.YtkiokimpblimcaaOTreeGoesx11
namespace Go.Proofs.Ytkiokimpblimcaa.PTreeGoes
open Go.RowKit Go.Proofs.YtkiokimpblimcaaW.PrintWords Go.Proofs.YtkiokimpblimcaaW.PrintLast Go.Proofs.YtkiokimpblimcaaW.PrintMore
attribute [local go_sem] max2_int min2_int max_two min_two max_three min_three max_four min_four   -- for this text's walks alone
set_option linter.unusedVariables false
set_option linter.unusedSimpArgs false

/-! ### calamusref11_on: function 89 -/
def calamusref11_on.l0 : Nat → Int → Int → List (S69) → Int → Option (Bool)
 | 0, _, _, _, _ => none
 | k + 1, x1, x2, x276000, x276001 => if x2 > x1 then (if 0 ≤ x2 then (if x2 < (x276000.length : Int) then (calamusref11_on.l0 k x1 ((rd_T69 x276000 x2).f0) x276000 x276001) else (none)) else (none)) else (some (x2 == x1))
def calamusref11_on.f (k : Nat) (l0_0 : List (S69)) (a0_1 : Int) (a1 : Int) (a2 : Int) : Option (Bool) := calamusref11_on.l0 k a1 a2 l0_0 a0_1
theorem calamusref11_on.mono_l : ∀ k, (∀ y0 y1 y2 y3, LeO (calamusref11_on.l0 k y0 y1 y2 y3) (calamusref11_on.l0 (k + 1) y0 y1 y2 y3))
 | 0 => fun _ _ _ _ r h => by simp [calamusref11_on.l0] at h
 | k + 1 => by
  have ih0 := calamusref11_on.mono_l k
  ·intro y0 y1 y2 y3
   unfold calamusref11_on.l0
   repeat' first
   | (with_reducible exact ih0 _ _ _ _)
   | (with_reducible exact LeO.refl _)
   | (with_reducible exact LeO.none _)
   | (with_reducible refine LeO.ite ?_ ?_)
   | (with_reducible refine LeO.bind ?_ (fun _ => ?_))
   | exact ih0 _ _ _ _
   | exact LeO.none _
   | refine LeO.ite ?_ ?_
   | refine LeO.bind ?_ (fun _ => ?_)
theorem calamusref11_on.mono : ∀ a0 a1 a2 a3 k, LeO (calamusref11_on.f k a0 a1 a2 a3) (calamusref11_on.f (k + 1) a0 a1 a2 a3) := by
 intro a0 a1 a2 a3 k
 have ih0 := calamusref11_on.mono_l k
 unfold calamusref11_on.f
 repeat' first
   | (with_reducible exact ih0 _ _ _ _)
   | (with_reducible exact LeO.refl _)
   | (with_reducible exact LeO.none _)
   | (with_reducible refine LeO.ite ?_ ?_)
   | (with_reducible refine LeO.bind ?_ (fun _ => ?_))
   | exact ih0 _ _ _ _
   | exact LeO.none _
   | refine LeO.ite ?_ ?_
   | refine LeO.bind ?_ (fun _ => ?_)
set_option maxHeartbeats 8000000 in
set_option maxRecDepth 100000 in
theorem calamusref11_on.calls (k : Nat) (A0_0 : Option Addr) (c0_0 : Nat) (l0_0 : List (S69)) (a0_1 : Int) (a1 : Int) (a2 : Int) (r : Bool) (w : World) (hr0_0 : Kd.C k69 w A0_0 l0_0.length l0_0) (hc0_0 : l0_0.length ≤ c0_0) (h : calamusref11_on.f k l0_0 a0_1 a1 a2 = some r) :
  Calls Try.prog 89 #[.agg #[.slice A0_0 l0_0.length c0_0, .int .i64 a0_1], .int .i64 a1, .int .i64 a2] w fun e w' => e = .returned (.bool r) ∧ Below w.heap.size w w' := by
 have hu46 := Try.underlying46
 have HR0_0 := Aside0.mk hr0_0
 have HC0_0 := Aside0.mk hc0_0
 clear hr0_0 hc0_0
 have HB := Aside0.mk (Below.refl w.heap.size w)
 have H : (calamusref11_on.l0 k a1 a2 l0_0 a0_1) = some r := h
 clear h
 have H' := Aside0.mk H
 clear H
 go_enter Try.func89, Try.ntmps89
 go_wp2_with (first | ((with_reducible refine gate_dst (N := 3) rfl ?_); refine be_ (N := 3) (cs := #[.slice A0_0 l0_0.length c0_0, .int .i64 a0_1]) (t := 46) (h := ?_); intro gb275 hg w4 hbox hb; have BK275 := Aside0.mk (hbox); have GW275 := gw_ HB hg; have GE275 := gw_ HB hg; replace HB := bs_ HB hb; clear hb hbox hg))
 go_loopg [2] k (fun kq v2 w' => ∃ (x2_1 : Int), v2 = .int .i64 x2_1 ∧ Aside0 (calamusref11_on.l0 kq a1 x2_1 l0_0 a0_1 = some r) ∧ Aside0 (kq ≤ k) ∧ Aside0 (w'.heap[gb275]? = some (.cells #[(.slice A0_0 l0_0.length c0_0), .int .i64 a0_1] 46 (0, 0))) ∧ Aside0 (Below w.heap.size w w'))
 case atStart => exact ⟨(a2), es_, H', ⟨Nat.le_refl _⟩, ⟨bw_ BK275.out⟩, ⟨hb_ HB⟩⟩
 case round =>
  clear H'
  obtain ⟨x2_1, rfl, HA, HK1, BK275, HB⟩ := hrel
  cases gk with
  | zero => exact absurd HA.out (by simp [calamusref11_on.l0])
  | succ k1 =>
   have H := HA.out
   clear HA
   simp only [calamusref11_on.l0] at H
   by_cases c5 : x2_1 > a1
   ·rw [if_pos c5] at H
    have c5b0 : decide (a1 < x2_1) = true := decide_eq_true c5
    clear c5
    by_cases c6 : 0 ≤ x2_1
    ·rw [if_pos c6] at H
     have c6b0 : decide (0 ≤ x2_1) = true := decide_eq_true c6
     clear c6
     by_cases c7 : x2_1 < (l0_0.length : Int)
     ·rw [if_pos c7] at H
      have c7b0 : decide (x2_1 < (l0_0.length : Int)) = true := decide_eq_true c7
      clear c7
      have H' := Aside0.mk H
      clear H
      obtain ⟨hcz8_0, hcz8_1, hfz8_0, hfz8_1⟩ := bc2_ BK275
      have p276 : 0 ≤ (x2_1 : Int) := of_decide_eq_true as_
      have q276 : x2_1 < (l0_0.length : Int) := of_decide_eq_true as_
      obtain ⟨ad276, e276, hx276_0, hx276_1, hx276_2, hx276_3, hx276_4, hx276_5, hx276_6⟩ := at_T69b HR0_0 HB x2_1 p276 q276
      cases e276
      replace p276 := eq_true p276
      replace q276 := eq_true q276
      go_wp2
      go_roundg k1
      case measure => have := HK1.out; omega
      case rel => exact ⟨((rd_T69 l0_0 x2_1).f0), es_, H', ⟨by have := HK1.out; omega⟩, ⟨bw_ BK275.out⟩, ⟨hb_ HB⟩⟩
     ·rw [if_neg c7] at H
      exact absurd H (by simp)
    ·rw [if_neg c6] at H
     exact absurd H (by simp)
   ·rw [if_neg c5] at H
    have c5b0 : decide (a1 < x2_1) = false := decide_eq_false c5
    clear c5
    obtain rfl := Option.some.inj H
    go_wp2
    go_ret
    exact ⟨er_, hb_ HB⟩

/-! ### calamusref11_Path: function 52 -/
mutual
def calamusref11_Path.l0 : Nat → Int → List Int → Int → List (S69) → Int → Option (List Int × List Int × Int)
 | 0, _, _, _, _, _ => none
 | k + 1, x1, x7, x9, x278000, x278001 => if x9 ≥ 0 then ((calamusref11_on.f k x278000 x278001 x9 x278001).bind fun t280 => (if t280 = true then ((calamusref11_on.f k x278000 x278001 x9 x1).bind fun t281 => (if t281 = true then (calamusref11_Path.l0 k x1 x7 (wrap64 (x9 - 1)) x278000 x278001) else (if x7.length < 17592186044416 then (calamusref11_Path.l0 k x1 (x7 ++ [x9]) (wrap64 (x9 - 1)) x278000 x278001) else (none)))) else (calamusref11_Path.l0 k x1 x7 (wrap64 (x9 - 1)) x278000 x278001))) else (calamusref11_Path.l1 k x1 x7 ([] : List Int) 0 x278000 x278001)
def calamusref11_Path.l1 : Nat → Int → List Int → List Int → Int → List (S69) → Int → Option (List Int × List Int × Int)
 | 0, _, _, _, _, _, _ => none
 | k + 1, x1, x7, x8, x10, x278000, x278001 => if x10 < (x278000.length : Int) then ((calamusref11_on.f k x278000 x278001 x10 x1).bind fun t285 => (if t285 = true then ((calamusref11_on.f k x278000 x278001 x10 x278001).bind fun t286 => (if t286 = true then (calamusref11_Path.l1 k x1 x7 x8 (wrap64 (x10 + 1)) x278000 x278001) else (if x8.length < 17592186044416 then (calamusref11_Path.l1 k x1 x7 (x8 ++ [x10]) (wrap64 (x10 + 1)) x278000 x278001) else (none)))) else (calamusref11_Path.l1 k x1 x7 x8 (wrap64 (x10 + 1)) x278000 x278001))) else (some (x7, x8, 0))
end
def calamusref11_Path.f (k : Nat) (l0_0 : List (S69)) (a0_1 : Int) (a1 : Int) : Option (List Int × List Int × Int) := (calamusref11_Right.f k l0_0 a0_1).bind fun t278 => (if t278 = true then ((calamusref11_has.f l0_0 a0_1 a1).bind fun t279 => (if t279 = true then (calamusref11_Path.l0 k a1 ([] : List Int) (wrap64 ((l0_0.length : Int) - 1)) l0_0 a0_1) else (some (([] : List Int), ([] : List Int), 7)))) else (some (([] : List Int), ([] : List Int), 1)))
theorem calamusref11_Path.mono_l : ∀ k, (∀ y0 y1 y2 y3 y4, LeO (calamusref11_Path.l0 k y0 y1 y2 y3 y4) (calamusref11_Path.l0 (k + 1) y0 y1 y2 y3 y4)) ∧ (∀ y0 y1 y2 y3 y4 y5, LeO (calamusref11_Path.l1 k y0 y1 y2 y3 y4 y5) (calamusref11_Path.l1 (k + 1) y0 y1 y2 y3 y4 y5))
 | 0 => ⟨fun _ _ _ _ _ r h => by simp [calamusref11_Path.l0] at h, fun _ _ _ _ _ _ r h => by simp [calamusref11_Path.l1] at h⟩
 | k + 1 => by
  obtain ⟨ih0, ih1⟩ := calamusref11_Path.mono_l k
  refine ⟨?_, ?_⟩
  ·intro y0 y1 y2 y3 y4
   unfold calamusref11_Path.l0
   repeat' first
   | (with_reducible exact ih0 _ _ _ _ _)
   | (with_reducible exact ih1 _ _ _ _ _ _)
   | (with_reducible exact calamusref11_Right.mono _ _ _)
   | (with_reducible exact calamusref11_on.mono _ _ _ _ _)
   | (with_reducible exact LeO.refl _)
   | (with_reducible exact LeO.none _)
   | (with_reducible refine LeO.ite ?_ ?_)
   | (with_reducible refine LeO.bind ?_ (fun _ => ?_))
   | exact ih0 _ _ _ _ _
   | exact ih1 _ _ _ _ _ _
   | exact calamusref11_Right.mono _ _ _
   | exact calamusref11_on.mono _ _ _ _ _
   | exact LeO.none _
   | refine LeO.ite ?_ ?_
   | refine LeO.bind ?_ (fun _ => ?_)
  ·intro y0 y1 y2 y3 y4 y5
   unfold calamusref11_Path.l1
   repeat' first
   | (with_reducible exact ih0 _ _ _ _ _)
   | (with_reducible exact ih1 _ _ _ _ _ _)
   | (with_reducible exact calamusref11_Right.mono _ _ _)
   | (with_reducible exact calamusref11_on.mono _ _ _ _ _)
   | (with_reducible exact LeO.refl _)
   | (with_reducible exact LeO.none _)
   | (with_reducible refine LeO.ite ?_ ?_)
   | (with_reducible refine LeO.bind ?_ (fun _ => ?_))
   | exact ih0 _ _ _ _ _
   | exact ih1 _ _ _ _ _ _
   | exact calamusref11_Right.mono _ _ _
   | exact calamusref11_on.mono _ _ _ _ _
   | exact LeO.none _
   | refine LeO.ite ?_ ?_
   | refine LeO.bind ?_ (fun _ => ?_)
theorem calamusref11_Path.mono : ∀ a0 a1 a2 k, LeO (calamusref11_Path.f k a0 a1 a2) (calamusref11_Path.f (k + 1) a0 a1 a2) := by
 intro a0 a1 a2 k
 obtain ⟨ih0, ih1⟩ := calamusref11_Path.mono_l k
 unfold calamusref11_Path.f
 repeat' first
   | (with_reducible exact ih0 _ _ _ _ _)
   | (with_reducible exact ih1 _ _ _ _ _ _)
   | (with_reducible exact calamusref11_Right.mono _ _ _)
   | (with_reducible exact calamusref11_on.mono _ _ _ _ _)
   | (with_reducible exact LeO.refl _)
   | (with_reducible exact LeO.none _)
   | (with_reducible refine LeO.ite ?_ ?_)
   | (with_reducible refine LeO.bind ?_ (fun _ => ?_))
   | exact ih0 _ _ _ _ _
   | exact ih1 _ _ _ _ _ _
   | exact calamusref11_Right.mono _ _ _
   | exact calamusref11_on.mono _ _ _ _ _
   | exact LeO.none _
   | refine LeO.ite ?_ ?_
   | refine LeO.bind ?_ (fun _ => ?_)
set_option maxHeartbeats 8000000 in
set_option maxRecDepth 100000 in
theorem calamusref11_Path.calls (k : Nat) (A0_0 : Option Addr) (c0_0 : Nat) (l0_0 : List (S69)) (a0_1 : Int) (a1 : Int) (r1 : List Int) (r2 : List Int) (r3 : Int) (w : World) (hr0_0 : Kd.C k69 w A0_0 l0_0.length l0_0) (hc0_0 : l0_0.length ≤ c0_0) (h : calamusref11_Path.f k l0_0 a0_1 a1 = some (r1, r2, r3)) :
  Calls Try.prog 52 #[.agg #[.slice A0_0 l0_0.length c0_0, .int .i64 a0_1], .int .i64 a1] w fun e w' => ∃ v0_ v1_ : Value, e = .returned (.tuple #[v0_, v1_, .int .i64 r3]) ∧ Kd.R (Kd.int .i64) 3 w' w.heap.size (fun k_ => some k_ ≠ (v1_ : Value).ownBlock) v0_ r1 ∧ Kd.R (Kd.int .i64) 3 w' w.heap.size (fun k_ => some k_ ≠ (v0_ : Value).ownBlock) v1_ r2 ∧ Below w.heap.size w w' := by
 have hu46 := Try.underlying46
 have HR0_0 := Aside0.mk hr0_0
 have HC0_0 := Aside0.mk hc0_0
 clear hr0_0 hc0_0
 have HB := Aside0.mk (Below.refl w.heap.size w)
 have H : ((calamusref11_Right.f k l0_0 a0_1).bind fun t278 => (if t278 = true then ((calamusref11_has.f l0_0 a0_1 a1).bind fun t279 => (if t279 = true then (calamusref11_Path.l0 k a1 ([] : List Int) (wrap64 ((l0_0.length : Int) - 1)) l0_0 a0_1) else (some (([] : List Int), ([] : List Int), 7)))) else (some (([] : List Int), ([] : List Int), 1)))) = some (r1, r2, r3) := h
 clear h
 replace H := Option.bind_eq_some_iff.mp H
 obtain ⟨t278, A30, H⟩ := H
 replace H : (if t278 = true then ((calamusref11_has.f l0_0 a0_1 a1).bind fun t279 => (if t279 = true then (calamusref11_Path.l0 k a1 ([] : List Int) (wrap64 ((l0_0.length : Int) - 1)) l0_0 a0_1) else (some (([] : List Int), ([] : List Int), 7)))) else (some (([] : List Int), ([] : List Int), 1))) = some (r1, r2, r3) := H
 have A3 := Aside0.mk A30
 clear A30
 by_cases c4 : t278 = true
 ·subst c4
  have H1 : ((calamusref11_has.f l0_0 a0_1 a1).bind fun t279 => (if t279 = true then (calamusref11_Path.l0 k a1 ([] : List Int) (wrap64 ((l0_0.length : Int) - 1)) l0_0 a0_1) else (some (([] : List Int), ([] : List Int), 7)))) = some (r1, r2, r3) := by rw [if_pos rfl] at H; exact H
  clear H
  have H := H1
  clear H1
  replace H := Option.bind_eq_some_iff.mp H
  obtain ⟨t279, A50, H⟩ := H
  replace H : (if t279 = true then (calamusref11_Path.l0 k a1 ([] : List Int) (wrap64 ((l0_0.length : Int) - 1)) l0_0 a0_1) else (some (([] : List Int), ([] : List Int), 7))) = some (r1, r2, r3) := H
  have A5 := Aside0.mk A50
  clear A50
  by_cases c6 : t279 = true
  ·subst c6
   have H1 : (calamusref11_Path.l0 k a1 ([] : List Int) (wrap64 ((l0_0.length : Int) - 1)) l0_0 a0_1) = some (r1, r2, r3) := by rw [if_pos rfl] at H; exact H
   clear H
   have H := H1
   clear H1
   have H' := Aside0.mk H
   clear H
   go_enter Try.func52, Try.ntmps52
   go_wp2_with (first | ((with_reducible refine gate_dst (N := 2) rfl ?_); refine be_ (N := 2) (cs := #[.slice A0_0 l0_0.length c0_0, .int .i64 a0_1]) (t := 46) (h := ?_); intro gb277 hg w7 hbox hb; have BK277 := Aside0.mk (hbox); have GW277 := gw_ HB hg; have GE277 := gw_ HB hg; replace HB := bs_ HB hb; clear hb hbox hg; obtain ⟨hcz8_0, hcz8_1, hfz8_0, hfz8_1⟩ := bc2_ BK277) | ((with_reducible refine gate_callee (f := 37) rfl ?_); refine ge_ (some 12) rfl rfl Try.func37 (by kernel_rfl) rfl #[.agg #[.slice A0_0 l0_0.length c0_0, .int .i64 a0_1]] rfl (h := ?_); (with_reducible refine (calamusref11_Right.calls k _ _ l0_0 a0_1 true _ ?side1 ?side2 A3.out).mono ?_); (case side1 => exact cw_ (Kd.C_below HR0_0.out HB.out)); (case side2 => exact HC0_0.out); rintro e w9 ⟨rfl, hb⟩; refine ⟨_, rfl, ?_⟩; replace BK277 := bb_ BK277 hb; replace HB := bs_ HB hb; (try clear hb); (try clear hb2); (try clear hk); (try clear hi); obtain ⟨hcz10_0, hcz10_1, hfz10_0, hfz10_1⟩ := bc2_ BK277) | ((with_reducible refine gate_callee (f := 82) rfl ?_); refine ge_ (some 16) rfl rfl Try.func82 (by kernel_rfl) rfl #[.agg #[.slice A0_0 l0_0.length c0_0, .int .i64 a0_1], .int .i64 a1] rfl (h := ?_); (with_reducible refine (calamusref11_has.calls _ _ l0_0 a0_1 a1 true _ ?side1 ?side2 A5.out).mono ?_); (case side1 => exact cw_ (Kd.C_below HR0_0.out HB.out)); (case side2 => exact HC0_0.out); rintro e w11 ⟨rfl, hb⟩; refine ⟨_, rfl, ?_⟩; replace BK277 := bb_ BK277 hb; replace HB := bs_ HB hb; (try clear hb); (try clear hb2); (try clear hk); (try clear hi); obtain ⟨hcz12_0, hcz12_1, hfz12_0, hfz12_1⟩ := bc2_ BK277))
   go_loopg [7, 9] k (fun kq v7 v9 w' => ∃ (x7_1 : List Int) (x9_1 : Int), v9 = .int .i64 x9_1 ∧ Aside0 (calamusref11_Path.l0 kq a1 x7_1 x9_1 l0_0 a0_1 = some (r1, r2, r3)) ∧ Aside0 (kq ≤ k) ∧ Aside0 (Kd.R (Kd.int .i64) 3 w' w.heap.size (fun _ => True) v7 x7_1) ∧ Aside0 (w'.heap[gb277]? = some (.cells #[(.slice A0_0 l0_0.length c0_0), .int .i64 a0_1] 46 (0, 0))) ∧ Aside0 (Below w.heap.size w w'))
   case atStart => exact ⟨(([] : List Int)), (wrap64 ((l0_0.length : Int) - 1)), es_, H', ⟨Nat.le_refl _⟩, ⟨by first | exact Kd.R_nil _ _ _ _ _ | exact Kd.N_nil _ _ _ _ _ | exact Kd.V_nil _ _ _ _ _ | exact Kd.Q_nil _ _ _ _ _ | exact Kd.S_nil _ _ _ _ _⟩, ⟨bw_ BK277.out⟩, ⟨hb_ HB⟩⟩
   case round =>
    clear H'
    try clear c4
    try clear c6
    try clear hcz10_0
    try clear hcz10_1
    try clear hcz12_0
    try clear hcz12_1
    try clear hcz8_0
    try clear hcz8_1
    try clear hfz10_0
    try clear hfz10_1
    try clear hfz12_0
    try clear hfz12_1
    try clear hfz8_0
    try clear hfz8_1
    obtain ⟨x7_1, x9_1, rfl, HA, HK1, HO_7, BK277, HB⟩ := hrel
    cases gk with
    | zero => exact absurd HA.out (by simp [calamusref11_Path.l0])
    | succ k1 =>
     have H := HA.out
     clear HA
     simp only [calamusref11_Path.l0] at H
     by_cases c13 : x9_1 ≥ 0
     ·rw [if_pos c13] at H
      have c13b0 : decide (0 ≤ x9_1) = true := decide_eq_true c13
      clear c13
      replace H := Option.bind_eq_some_iff.mp H
      obtain ⟨t280, A140, H⟩ := H
      replace H : (if t280 = true then ((calamusref11_on.f k1 l0_0 a0_1 x9_1 a1).bind fun t281 => (if t281 = true then (calamusref11_Path.l0 k1 a1 x7_1 (wrap64 (x9_1 - 1)) l0_0 a0_1) else (if x7_1.length < 17592186044416 then (calamusref11_Path.l0 k1 a1 (x7_1 ++ [x9_1]) (wrap64 (x9_1 - 1)) l0_0 a0_1) else (none)))) else (calamusref11_Path.l0 k1 a1 x7_1 (wrap64 (x9_1 - 1)) l0_0 a0_1)) = some (r1, r2, r3) := H
      have A14 := Aside0.mk A140
      clear A140
      by_cases c15 : t280 = true
      ·subst c15
       have H1 : ((calamusref11_on.f k1 l0_0 a0_1 x9_1 a1).bind fun t281 => (if t281 = true then (calamusref11_Path.l0 k1 a1 x7_1 (wrap64 (x9_1 - 1)) l0_0 a0_1) else (if x7_1.length < 17592186044416 then (calamusref11_Path.l0 k1 a1 (x7_1 ++ [x9_1]) (wrap64 (x9_1 - 1)) l0_0 a0_1) else (none)))) = some (r1, r2, r3) := by rw [if_pos rfl] at H; exact H
       clear H
       have H := H1
       clear H1
       replace H := Option.bind_eq_some_iff.mp H
       obtain ⟨t281, A160, H⟩ := H
       replace H : (if t281 = true then (calamusref11_Path.l0 k1 a1 x7_1 (wrap64 (x9_1 - 1)) l0_0 a0_1) else (if x7_1.length < 17592186044416 then (calamusref11_Path.l0 k1 a1 (x7_1 ++ [x9_1]) (wrap64 (x9_1 - 1)) l0_0 a0_1) else (none))) = some (r1, r2, r3) := H
       have A16 := Aside0.mk A160
       clear A160
       by_cases c17 : t281 = true
       ·subst c17
        have H1 : (calamusref11_Path.l0 k1 a1 x7_1 (wrap64 (x9_1 - 1)) l0_0 a0_1) = some (r1, r2, r3) := by rw [if_pos rfl] at H; exact H
        clear H
        have H := H1
        clear H1
        have H' := Aside0.mk H
        clear H
        obtain ⟨hcz18_0, hcz18_1, hfz18_0, hfz18_1⟩ := bc2_ BK277
        go_wp2_with (first | ((with_reducible refine gate_callee (f := 89) rfl ?_); refine ge_ (some 30) rfl rfl Try.func89 (by kernel_rfl) rfl #[.agg #[.slice A0_0 l0_0.length c0_0, .int .i64 a0_1], .int .i64 x9_1, .int .i64 a0_1] rfl (h := ?_); (with_reducible refine (calamusref11_on.calls k1 _ _ l0_0 a0_1 x9_1 a0_1 true _ ?side1 ?side2 A14.out).mono ?_); (case side1 => exact cw_ (Kd.C_below HR0_0.out HB.out)); (case side2 => exact HC0_0.out); rintro e w19 ⟨rfl, hb⟩; refine ⟨_, rfl, ?_⟩; replace HO_7 := Aside0.mk (Kd.R_below (rw_ HO_7.out) hb); replace BK277 := bb_ BK277 hb; replace HB := bs_ HB hb; (try clear hb); (try clear hb2); (try clear hk); (try clear hi); obtain ⟨hcz20_0, hcz20_1, hfz20_0, hfz20_1⟩ := bc2_ BK277) | (go_at_call 89; (with_reducible refine (calamusref11_on.calls k1 _ _ l0_0 a0_1 x9_1 a1 true _ ?side1 ?side2 A16.out).mono ?_); (case side1 => exact cw_ (Kd.C_below HR0_0.out HB.out)); (case side2 => exact HC0_0.out); rintro e w21 ⟨rfl, hb⟩; replace HO_7 := Aside0.mk (Kd.R_below (rw_ HO_7.out) hb); replace BK277 := bb_ BK277 hb; replace HB := bs_ HB hb; (try clear hb); (try clear hb2); (try clear hk); (try clear hi)))
        go_roundg k1
        case measure => have := HK1.out; omega
        case rel => exact ⟨(x7_1), (wrap64 (x9_1 - 1)), es_, H', ⟨by have := HK1.out; omega⟩, ⟨rw_ HO_7.out⟩, ⟨bw_ BK277.out⟩, ⟨hb_ HB⟩⟩
       ·replace c17 := Bool.eq_false_iff.mpr c17
        subst c17
        have H1 : (if x7_1.length < 17592186044416 then (calamusref11_Path.l0 k1 a1 (x7_1 ++ [x9_1]) (wrap64 (x9_1 - 1)) l0_0 a0_1) else (none)) = some (r1, r2, r3) := by rw [if_neg (show ¬ (false = true) by decide)] at H; exact H
        clear H
        have H := H1
        clear H1
        by_cases c22 : x7_1.length < 17592186044416
        ·rw [if_pos c22] at H
         have LMc22 := Aside0.mk c22
         clear c22
         obtain ⟨y282, hy282⟩ : ∃ y_ : List Int, y_ = (x7_1 ++ [x9_1]) := ⟨_, rfl⟩
         replace H : (calamusref11_Path.l0 k1 a1 y282 (wrap64 (x9_1 - 1)) l0_0 a0_1) = some (r1, r2, r3) := th_ H hy282
         have Ny282 := Aside0.mk hy282
         clear hy282
         have H' := Aside0.mk H
         clear H
         obtain ⟨hcz23_0, hcz23_1, hfz23_0, hfz23_1⟩ := bc2_ BK277
         go_wp2_with (first | ((with_reducible refine gate_callee (f := 89) rfl ?_); refine ge_ (some 30) rfl rfl Try.func89 (by kernel_rfl) rfl #[.agg #[.slice A0_0 l0_0.length c0_0, .int .i64 a0_1], .int .i64 x9_1, .int .i64 a0_1] rfl (h := ?_); (with_reducible refine (calamusref11_on.calls k1 _ _ l0_0 a0_1 x9_1 a0_1 true _ ?side1 ?side2 A14.out).mono ?_); (case side1 => exact cw_ (Kd.C_below HR0_0.out HB.out)); (case side2 => exact HC0_0.out); rintro e w24 ⟨rfl, hb⟩; refine ⟨_, rfl, ?_⟩; replace HO_7 := Aside0.mk (Kd.R_below (rw_ HO_7.out) hb); replace BK277 := bb_ BK277 hb; replace HB := bs_ HB hb; (try clear hb); (try clear hb2); (try clear hk); (try clear hi); obtain ⟨hcz25_0, hcz25_1, hfz25_0, hfz25_1⟩ := bc2_ BK277) | (go_at_call 89; (with_reducible refine (calamusref11_on.calls k1 _ _ l0_0 a0_1 x9_1 a1 false _ ?side1 ?side2 A16.out).mono ?_); (case side1 => exact cw_ (Kd.C_below HR0_0.out HB.out)); (case side2 => exact HC0_0.out); rintro e w26 ⟨rfl, hb⟩; replace HO_7 := Aside0.mk (Kd.R_below (rw_ HO_7.out) hb); replace BK277 := bb_ BK277 hb; replace HB := bs_ HB hb; (try clear hb); (try clear hb2); (try clear hk); (try clear hi)) | ((with_reducible refine gate_builtin (b := .append) (xs := #[.tmp 38, .tmp 40]) rfl ?_); at_builtin; refine Kd.R_append (Kd.int .i64) (w0 := w) w.heap.size rfl (.tmp 38) (.tmp 40) 59 3 (.int .i64 0) 8 rfl Try.underlying59 info3 rfl (by decide) (by omega) u7 x7_1 x9_1 [.int .i64 x9_1] (fun _ => True) (fun _ => False) rfl rfl ?aP (fun _ hk => hk.elim) ?aF ?aO ?aB ?aS ?aL ?_; (case aP => exact rfl); (case aB => exact (hb_ HB)); (case aF => exact (fun _ _ => trivial)); (case aO => exact (rw_ HO_7.out)); (case aS => exact (below_size (hb_ HB))); (case aL => have := LMc22.out; omega); intro v283 w27 ho hb hg hat; rw [← Ny282.out] at ho; have n0_ := Aside0.mk (blk_grown (g := gb277) (o := .cells #[.slice A0_0 l0_0.length c0_0, .int .i64 a0_1] 46 (0, 0)) (bw_ BK277.out) hg (Kd.R_ne HO_7.out BK277.out (by decide))); have n1_ := Aside0.mk (hb); have n2_ := Aside0.mk (ho); clear BK277; clear HB; clear HO_7; have BK277 := n0_; have HB := n1_; have HO284 := n2_; clear n0_ n1_ n2_; clear ho hb hg hat))
         go_roundg k1
         case measure => have := HK1.out; omega
         case rel => exact ⟨(y282), (wrap64 (x9_1 - 1)), es_, H', ⟨by have := HK1.out; omega⟩, ⟨rw_ HO284.out⟩, ⟨bw_ BK277.out⟩, ⟨hb_ HB⟩⟩
        ·rw [if_neg c22] at H
         exact absurd H (by simp)
      ·replace c15 := Bool.eq_false_iff.mpr c15
       subst c15
       have H1 : (calamusref11_Path.l0 k1 a1 x7_1 (wrap64 (x9_1 - 1)) l0_0 a0_1) = some (r1, r2, r3) := by rw [if_neg (show ¬ (false = true) by decide)] at H; exact H
       clear H
       have H := H1
       clear H1
       have H' := Aside0.mk H
       clear H
       obtain ⟨hcz28_0, hcz28_1, hfz28_0, hfz28_1⟩ := bc2_ BK277
       go_wp2_with (first | ((with_reducible refine gate_callee (f := 89) rfl ?_); refine ge_ (some 30) rfl rfl Try.func89 (by kernel_rfl) rfl #[.agg #[.slice A0_0 l0_0.length c0_0, .int .i64 a0_1], .int .i64 x9_1, .int .i64 a0_1] rfl (h := ?_); (with_reducible refine (calamusref11_on.calls k1 _ _ l0_0 a0_1 x9_1 a0_1 false _ ?side1 ?side2 A14.out).mono ?_); (case side1 => exact cw_ (Kd.C_below HR0_0.out HB.out)); (case side2 => exact HC0_0.out); rintro e w29 ⟨rfl, hb⟩; refine ⟨_, rfl, ?_⟩; replace HO_7 := Aside0.mk (Kd.R_below (rw_ HO_7.out) hb); replace BK277 := bb_ BK277 hb; replace HB := bs_ HB hb; (try clear hb); (try clear hb2); (try clear hk); (try clear hi)))
       go_roundg k1
       case measure => have := HK1.out; omega
       case rel => exact ⟨(x7_1), (wrap64 (x9_1 - 1)), es_, H', ⟨by have := HK1.out; omega⟩, ⟨rw_ HO_7.out⟩, ⟨bw_ BK277.out⟩, ⟨hb_ HB⟩⟩
     ·rw [if_neg c13] at H
      have c13b0 : decide (0 ≤ x9_1) = false := decide_eq_false c13
      clear c13
      have H' := Aside0.mk H
      clear H
      go_wp2
      go_loopg [8, 10] k1 (fun kq v8 v10 w' => ∃ (x8_2 : List Int) (x10_2 : Int), v10 = .int .i64 x10_2 ∧ Aside0 (calamusref11_Path.l1 kq a1 x7_1 x8_2 x10_2 l0_0 a0_1 = some (r1, r2, r3)) ∧ Aside0 (kq ≤ k1) ∧ Aside0 (Kd.R (Kd.int .i64) 3 w' w.heap.size (fun k_ => some k_ ≠ (v8 : Value).ownBlock) u7 x7_1) ∧ Aside0 (Kd.R (Kd.int .i64) 3 w' w.heap.size (fun k_ => some k_ ≠ (u7 : Value).ownBlock) v8 x8_2) ∧ Aside0 (w'.heap[gb277]? = some (.cells #[(.slice A0_0 l0_0.length c0_0), .int .i64 a0_1] 46 (0, 0))) ∧ Aside0 (Below w.heap.size w w'))
      case atStart => exact ⟨(([] : List Int)), (0), es_, H', ⟨Nat.le_refl _⟩, ⟨by (with_reducible repeat (first | apply Kd.R_alloc | apply Kd.R_drewN | apply Kd.R_drew)); exact Kd.R_mono HO_7.out (fun _ hk => (by simp [Value.ownBlock]))⟩, ⟨by first | exact Kd.R_nil _ _ _ _ _ | exact Kd.N_nil _ _ _ _ _ | exact Kd.V_nil _ _ _ _ _ | exact Kd.Q_nil _ _ _ _ _ | exact Kd.S_nil _ _ _ _ _⟩, ⟨bw_ BK277.out⟩, ⟨hb_ HB⟩⟩
      case round =>
       clear H'
       try clear c4
       try clear c6
       try clear c13
       try clear c13b0
       try clear hcz10_0
       try clear hcz10_1
       try clear hcz12_0
       try clear hcz12_1
       try clear hcz8_0
       try clear hcz8_1
       try clear hfz10_0
       try clear hfz10_1
       try clear hfz12_0
       try clear hfz12_1
       try clear hfz8_0
       try clear hfz8_1
       obtain ⟨x8_2, x10_2, rfl, HA, HK2, HO_7, HO_8, BK277, HB⟩ := hrel
       cases gk with
       | zero => exact absurd HA.out (by simp [calamusref11_Path.l1])
       | succ k2 =>
        have H := HA.out
        clear HA
        simp only [calamusref11_Path.l1] at H
        by_cases c30 : x10_2 < (l0_0.length : Int)
        ·rw [if_pos c30] at H
         have c30b0 : decide (x10_2 < (l0_0.length : Int)) = true := decide_eq_true c30
         clear c30
         replace H := Option.bind_eq_some_iff.mp H
         obtain ⟨t285, A310, H⟩ := H
         replace H : (if t285 = true then ((calamusref11_on.f k2 l0_0 a0_1 x10_2 a0_1).bind fun t286 => (if t286 = true then (calamusref11_Path.l1 k2 a1 x7_1 x8_2 (wrap64 (x10_2 + 1)) l0_0 a0_1) else (if x8_2.length < 17592186044416 then (calamusref11_Path.l1 k2 a1 x7_1 (x8_2 ++ [x10_2]) (wrap64 (x10_2 + 1)) l0_0 a0_1) else (none)))) else (calamusref11_Path.l1 k2 a1 x7_1 x8_2 (wrap64 (x10_2 + 1)) l0_0 a0_1)) = some (r1, r2, r3) := H
         have A31 := Aside0.mk A310
         clear A310
         by_cases c32 : t285 = true
         ·subst c32
          have H1 : ((calamusref11_on.f k2 l0_0 a0_1 x10_2 a0_1).bind fun t286 => (if t286 = true then (calamusref11_Path.l1 k2 a1 x7_1 x8_2 (wrap64 (x10_2 + 1)) l0_0 a0_1) else (if x8_2.length < 17592186044416 then (calamusref11_Path.l1 k2 a1 x7_1 (x8_2 ++ [x10_2]) (wrap64 (x10_2 + 1)) l0_0 a0_1) else (none)))) = some (r1, r2, r3) := by rw [if_pos rfl] at H; exact H
          clear H
          have H := H1
          clear H1
          replace H := Option.bind_eq_some_iff.mp H
          obtain ⟨t286, A330, H⟩ := H
          replace H : (if t286 = true then (calamusref11_Path.l1 k2 a1 x7_1 x8_2 (wrap64 (x10_2 + 1)) l0_0 a0_1) else (if x8_2.length < 17592186044416 then (calamusref11_Path.l1 k2 a1 x7_1 (x8_2 ++ [x10_2]) (wrap64 (x10_2 + 1)) l0_0 a0_1) else (none))) = some (r1, r2, r3) := H
          have A33 := Aside0.mk A330
          clear A330
          by_cases c34 : t286 = true
          ·subst c34
           have H1 : (calamusref11_Path.l1 k2 a1 x7_1 x8_2 (wrap64 (x10_2 + 1)) l0_0 a0_1) = some (r1, r2, r3) := by rw [if_pos rfl] at H; exact H
           clear H
           have H := H1
           clear H1
           have H' := Aside0.mk H
           clear H
           obtain ⟨hcz35_0, hcz35_1, hfz35_0, hfz35_1⟩ := bc2_ BK277
           go_wp2_with (first | ((with_reducible refine gate_callee (f := 89) rfl ?_); refine ge_ (some 52) rfl rfl Try.func89 (by kernel_rfl) rfl #[.agg #[.slice A0_0 l0_0.length c0_0, .int .i64 a0_1], .int .i64 x10_2, .int .i64 a1] rfl (h := ?_); (with_reducible refine (calamusref11_on.calls k2 _ _ l0_0 a0_1 x10_2 a1 true _ ?side1 ?side2 A31.out).mono ?_); (case side1 => exact cw_ (Kd.C_below HR0_0.out HB.out)); (case side2 => exact HC0_0.out); rintro e w36 ⟨rfl, hb⟩; refine ⟨_, rfl, ?_⟩; replace HO_7 := Aside0.mk (Kd.R_below (rw_ HO_7.out) hb); replace HO_8 := Aside0.mk (Kd.R_below (rw_ HO_8.out) hb); replace BK277 := bb_ BK277 hb; replace HB := bs_ HB hb; (try clear hb); (try clear hb2); (try clear hk); (try clear hi); obtain ⟨hcz37_0, hcz37_1, hfz37_0, hfz37_1⟩ := bc2_ BK277) | (go_at_call 89; (with_reducible refine (calamusref11_on.calls k2 _ _ l0_0 a0_1 x10_2 a0_1 true _ ?side1 ?side2 A33.out).mono ?_); (case side1 => exact cw_ (Kd.C_below HR0_0.out HB.out)); (case side2 => exact HC0_0.out); rintro e w38 ⟨rfl, hb⟩; replace HO_7 := Aside0.mk (Kd.R_below (rw_ HO_7.out) hb); replace HO_8 := Aside0.mk (Kd.R_below (rw_ HO_8.out) hb); replace BK277 := bb_ BK277 hb; replace HB := bs_ HB hb; (try clear hb); (try clear hb2); (try clear hk); (try clear hi)))
           go_roundg k2
           case measure => have := HK1.out; have := HK2.out; omega
           case rel => exact ⟨(x8_2), (wrap64 (x10_2 + 1)), es_, H', ⟨by have := HK1.out; have := HK2.out; omega⟩, ⟨rw_ HO_7.out⟩, ⟨rw_ HO_8.out⟩, ⟨bw_ BK277.out⟩, ⟨hb_ HB⟩⟩
          ·replace c34 := Bool.eq_false_iff.mpr c34
           subst c34
           have H1 : (if x8_2.length < 17592186044416 then (calamusref11_Path.l1 k2 a1 x7_1 (x8_2 ++ [x10_2]) (wrap64 (x10_2 + 1)) l0_0 a0_1) else (none)) = some (r1, r2, r3) := by rw [if_neg (show ¬ (false = true) by decide)] at H; exact H
           clear H
           have H := H1
           clear H1
           by_cases c39 : x8_2.length < 17592186044416
           ·rw [if_pos c39] at H
            have LMc39 := Aside0.mk c39
            clear c39
            obtain ⟨y287, hy287⟩ : ∃ y_ : List Int, y_ = (x8_2 ++ [x10_2]) := ⟨_, rfl⟩
            replace H : (calamusref11_Path.l1 k2 a1 x7_1 y287 (wrap64 (x10_2 + 1)) l0_0 a0_1) = some (r1, r2, r3) := th_ H hy287
            have Ny287 := Aside0.mk hy287
            clear hy287
            have H' := Aside0.mk H
            clear H
            obtain ⟨hcz40_0, hcz40_1, hfz40_0, hfz40_1⟩ := bc2_ BK277
            go_wp2_with (first | ((with_reducible refine gate_callee (f := 89) rfl ?_); refine ge_ (some 52) rfl rfl Try.func89 (by kernel_rfl) rfl #[.agg #[.slice A0_0 l0_0.length c0_0, .int .i64 a0_1], .int .i64 x10_2, .int .i64 a1] rfl (h := ?_); (with_reducible refine (calamusref11_on.calls k2 _ _ l0_0 a0_1 x10_2 a1 true _ ?side1 ?side2 A31.out).mono ?_); (case side1 => exact cw_ (Kd.C_below HR0_0.out HB.out)); (case side2 => exact HC0_0.out); rintro e w41 ⟨rfl, hb⟩; refine ⟨_, rfl, ?_⟩; replace HO_7 := Aside0.mk (Kd.R_below (rw_ HO_7.out) hb); replace HO_8 := Aside0.mk (Kd.R_below (rw_ HO_8.out) hb); replace BK277 := bb_ BK277 hb; replace HB := bs_ HB hb; (try clear hb); (try clear hb2); (try clear hk); (try clear hi); obtain ⟨hcz42_0, hcz42_1, hfz42_0, hfz42_1⟩ := bc2_ BK277) | (go_at_call 89; (with_reducible refine (calamusref11_on.calls k2 _ _ l0_0 a0_1 x10_2 a0_1 false _ ?side1 ?side2 A33.out).mono ?_); (case side1 => exact cw_ (Kd.C_below HR0_0.out HB.out)); (case side2 => exact HC0_0.out); rintro e w43 ⟨rfl, hb⟩; replace HO_7 := Aside0.mk (Kd.R_below (rw_ HO_7.out) hb); replace HO_8 := Aside0.mk (Kd.R_below (rw_ HO_8.out) hb); replace BK277 := bb_ BK277 hb; replace HB := bs_ HB hb; (try clear hb); (try clear hb2); (try clear hk); (try clear hi)) | ((with_reducible refine gate_builtin (b := .append) (xs := #[.tmp 61, .tmp 63]) rfl ?_); at_builtin; refine Kd.R_append (Kd.int .i64) (w0 := w) w.heap.size rfl (.tmp 61) (.tmp 63) 59 3 (.int .i64 0) 8 rfl Try.underlying59 info3 rfl (by decide) (by omega) u8 x8_2 x10_2 [.int .i64 x10_2] (fun k_ => some k_ ≠ (u7 : Value).ownBlock) (fun _ => False) rfl rfl ?aP (fun _ hk => hk.elim) ?aF ?aO ?aB ?aS ?aL ?_; (case aP => exact rfl); (case aB => exact (hb_ HB)); (case aF => exact (fun k_ hk => Kd.fresh' (Kd.R_lt (rw_ HO_7.out)) k_ hk)); (case aO => exact (rw_ HO_8.out)); (case aS => exact (below_size (hb_ HB))); (case aL => have := LMc39.out; omega); intro v288 w44 ho hb hg hat; rw [← Ny287.out] at ho; have n0_ := Aside0.mk (Kd.R_after (ok := (fun _ => True)) (by (with_reducible repeat (first | apply Kd.R_alloc | apply Kd.R_drewN | apply Kd.R_drew)); exact Kd.R_mono HO_7.out (fun _ hk => ⟨trivial, hk⟩)) hg hat); have n1_ := Aside0.mk (blk_grown (g := gb277) (o := .cells #[.slice A0_0 l0_0.length c0_0, .int .i64 a0_1] 46 (0, 0)) (bw_ BK277.out) hg (Kd.R_ne HO_8.out BK277.out (by decide))); have n2_ := Aside0.mk (hb); have n3_ := Aside0.mk (ho); clear HO_7; clear BK277; clear HB; clear HO_8; have HO_7 := n0_; have BK277 := n1_; have HB := n2_; have HO289 := n3_; clear n0_ n1_ n2_ n3_; clear ho hb hg hat))
            go_roundg k2
            case measure => have := HK1.out; have := HK2.out; omega
            case rel => exact ⟨(y287), (wrap64 (x10_2 + 1)), es_, H', ⟨by have := HK1.out; have := HK2.out; omega⟩, ⟨by (with_reducible repeat (first | apply Kd.R_alloc | apply Kd.R_drewN | apply Kd.R_drew)); exact Kd.R_mono HO_7.out (fun _ hk => hk.2)⟩, ⟨rw_ HO289.out⟩, ⟨bw_ BK277.out⟩, ⟨hb_ HB⟩⟩
           ·rw [if_neg c39] at H
            exact absurd H (by simp)
         ·replace c32 := Bool.eq_false_iff.mpr c32
          subst c32
          have H1 : (calamusref11_Path.l1 k2 a1 x7_1 x8_2 (wrap64 (x10_2 + 1)) l0_0 a0_1) = some (r1, r2, r3) := by rw [if_neg (show ¬ (false = true) by decide)] at H; exact H
          clear H
          have H := H1
          clear H1
          have H' := Aside0.mk H
          clear H
          obtain ⟨hcz45_0, hcz45_1, hfz45_0, hfz45_1⟩ := bc2_ BK277
          go_wp2_with (first | ((with_reducible refine gate_callee (f := 89) rfl ?_); refine ge_ (some 52) rfl rfl Try.func89 (by kernel_rfl) rfl #[.agg #[.slice A0_0 l0_0.length c0_0, .int .i64 a0_1], .int .i64 x10_2, .int .i64 a1] rfl (h := ?_); (with_reducible refine (calamusref11_on.calls k2 _ _ l0_0 a0_1 x10_2 a1 false _ ?side1 ?side2 A31.out).mono ?_); (case side1 => exact cw_ (Kd.C_below HR0_0.out HB.out)); (case side2 => exact HC0_0.out); rintro e w46 ⟨rfl, hb⟩; refine ⟨_, rfl, ?_⟩; replace HO_7 := Aside0.mk (Kd.R_below (rw_ HO_7.out) hb); replace HO_8 := Aside0.mk (Kd.R_below (rw_ HO_8.out) hb); replace BK277 := bb_ BK277 hb; replace HB := bs_ HB hb; (try clear hb); (try clear hb2); (try clear hk); (try clear hi)))
          go_roundg k2
          case measure => have := HK1.out; have := HK2.out; omega
          case rel => exact ⟨(x8_2), (wrap64 (x10_2 + 1)), es_, H', ⟨by have := HK1.out; have := HK2.out; omega⟩, ⟨rw_ HO_7.out⟩, ⟨rw_ HO_8.out⟩, ⟨bw_ BK277.out⟩, ⟨hb_ HB⟩⟩
        ·rw [if_neg c30] at H
         have c30b0 : decide (x10_2 < (l0_0.length : Int)) = false := decide_eq_false c30
         clear c30
         simp only [Option.some.injEq, Prod.mk.injEq] at H
         obtain ⟨rfl, rfl, rfl⟩ := H
         obtain ⟨hcz47_0, hcz47_1, hfz47_0, hfz47_1⟩ := bc2_ BK277
         go_wp2
         go_ret3
         exact ⟨_, _, er_, by (with_reducible repeat (first | apply Kd.R_alloc | apply Kd.R_drewN | apply Kd.R_drew)); exact HO_7.out, by (with_reducible repeat (first | apply Kd.R_alloc | apply Kd.R_drewN | apply Kd.R_drew)); exact HO_8.out, hb_ HB⟩
  ·replace c6 := Bool.eq_false_iff.mpr c6
   subst c6
   have H1 : (some (([] : List Int), ([] : List Int), 7)) = some (r1, r2, r3) := by rw [if_neg (show ¬ (false = true) by decide)] at H; exact H
   clear H
   have H := H1
   clear H1
   simp only [Option.some.injEq, Prod.mk.injEq] at H
   obtain ⟨rfl, rfl, rfl⟩ := H
   go_enter Try.func52, Try.ntmps52
   go_wp2_with (first | ((with_reducible refine gate_dst (N := 2) rfl ?_); refine be_ (N := 2) (cs := #[.slice A0_0 l0_0.length c0_0, .int .i64 a0_1]) (t := 46) (h := ?_); intro gb277 hg w48 hbox hb; have BK277 := Aside0.mk (hbox); have GW277 := gw_ HB hg; have GE277 := gw_ HB hg; replace HB := bs_ HB hb; clear hb hbox hg; obtain ⟨hcz49_0, hcz49_1, hfz49_0, hfz49_1⟩ := bc2_ BK277) | ((with_reducible refine gate_callee (f := 37) rfl ?_); refine ge_ (some 12) rfl rfl Try.func37 (by kernel_rfl) rfl #[.agg #[.slice A0_0 l0_0.length c0_0, .int .i64 a0_1]] rfl (h := ?_); (with_reducible refine (calamusref11_Right.calls k _ _ l0_0 a0_1 true _ ?side1 ?side2 A3.out).mono ?_); (case side1 => exact cw_ (Kd.C_below HR0_0.out HB.out)); (case side2 => exact HC0_0.out); rintro e w50 ⟨rfl, hb⟩; refine ⟨_, rfl, ?_⟩; replace BK277 := bb_ BK277 hb; replace HB := bs_ HB hb; (try clear hb); (try clear hb2); (try clear hk); (try clear hi); obtain ⟨hcz51_0, hcz51_1, hfz51_0, hfz51_1⟩ := bc2_ BK277) | ((with_reducible refine gate_callee (f := 82) rfl ?_); refine ge_ (some 16) rfl rfl Try.func82 (by kernel_rfl) rfl #[.agg #[.slice A0_0 l0_0.length c0_0, .int .i64 a0_1], .int .i64 a1] rfl (h := ?_); (with_reducible refine (calamusref11_has.calls _ _ l0_0 a0_1 a1 false _ ?side1 ?side2 A5.out).mono ?_); (case side1 => exact cw_ (Kd.C_below HR0_0.out HB.out)); (case side2 => exact HC0_0.out); rintro e w52 ⟨rfl, hb⟩; refine ⟨_, rfl, ?_⟩; replace BK277 := bb_ BK277 hb; replace HB := bs_ HB hb; (try clear hb); (try clear hb2); (try clear hk); (try clear hi)))
   go_ret3
   exact ⟨_, _, er_, by first | exact Kd.R_nil _ _ _ _ _ | exact Kd.N_nil _ _ _ _ _ | exact Kd.V_nil _ _ _ _ _ | exact Kd.Q_nil _ _ _ _ _ | exact Kd.S_nil _ _ _ _ _, by first | exact Kd.R_nil _ _ _ _ _ | exact Kd.N_nil _ _ _ _ _ | exact Kd.V_nil _ _ _ _ _ | exact Kd.Q_nil _ _ _ _ _ | exact Kd.S_nil _ _ _ _ _, hb_ HB⟩
 ·replace c4 := Bool.eq_false_iff.mpr c4
  subst c4
  have H1 : (some (([] : List Int), ([] : List Int), 1)) = some (r1, r2, r3) := by rw [if_neg (show ¬ (false = true) by decide)] at H; exact H
  clear H
  have H := H1
  clear H1
  simp only [Option.some.injEq, Prod.mk.injEq] at H
  obtain ⟨rfl, rfl, rfl⟩ := H
  go_enter Try.func52, Try.ntmps52
  go_wp2_with (first | ((with_reducible refine gate_dst (N := 2) rfl ?_); refine be_ (N := 2) (cs := #[.slice A0_0 l0_0.length c0_0, .int .i64 a0_1]) (t := 46) (h := ?_); intro gb277 hg w53 hbox hb; have BK277 := Aside0.mk (hbox); have GW277 := gw_ HB hg; have GE277 := gw_ HB hg; replace HB := bs_ HB hb; clear hb hbox hg; obtain ⟨hcz54_0, hcz54_1, hfz54_0, hfz54_1⟩ := bc2_ BK277) | ((with_reducible refine gate_callee (f := 37) rfl ?_); refine ge_ (some 12) rfl rfl Try.func37 (by kernel_rfl) rfl #[.agg #[.slice A0_0 l0_0.length c0_0, .int .i64 a0_1]] rfl (h := ?_); (with_reducible refine (calamusref11_Right.calls k _ _ l0_0 a0_1 false _ ?side1 ?side2 A3.out).mono ?_); (case side1 => exact cw_ (Kd.C_below HR0_0.out HB.out)); (case side2 => exact HC0_0.out); rintro e w55 ⟨rfl, hb⟩; refine ⟨_, rfl, ?_⟩; replace BK277 := bb_ BK277 hb; replace HB := bs_ HB hb; (try clear hb); (try clear hb2); (try clear hk); (try clear hi)))
  go_ret3
  exact ⟨_, _, er_, by first | exact Kd.R_nil _ _ _ _ _ | exact Kd.N_nil _ _ _ _ _ | exact Kd.V_nil _ _ _ _ _ | exact Kd.Q_nil _ _ _ _ _ | exact Kd.S_nil _ _ _ _ _, by first | exact Kd.R_nil _ _ _ _ _ | exact Kd.N_nil _ _ _ _ _ | exact Kd.V_nil _ _ _ _ _ | exact Kd.Q_nil _ _ _ _ _ | exact Kd.S_nil _ _ _ _ _, hb_ HB⟩

end Go.Proofs.Ytkiokimpblimcaa.PTreeGoes
