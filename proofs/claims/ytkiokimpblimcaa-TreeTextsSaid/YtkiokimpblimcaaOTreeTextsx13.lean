/- Of the law calamus/calamuslaw11.TreeTexts: each function as a plain Lean function, with a proof that the call comes to it; the row. By wip/tpl/own_print.py. Conditions: none but the row's own. -/
import Derived.Test.YtkiokimpblimcaaOTreeTextsx0
namespace Go.Proofs.Ytkiokimpblimcaa.PTreeTexts
open Go.RowKit Go.Proofs.YtkiokimpblimcaaW.PrintWords Go.Proofs.YtkiokimpblimcaaW.PrintLast Go.Proofs.YtkiokimpblimcaaW.PrintMore
attribute [local go_sem] max2_int min2_int max_two min_two max_three min_three max_four min_four   -- for this text's walks alone
set_option linter.unusedVariables false
set_option linter.unusedSimpArgs false

/-! ### calamusref11_on: function 89 -/
def calamusref11_on.l0 : Nat → Int → Int → List (S69) → Int → Option (Bool)
 | 0, _, _, _, _ => none
 | k + 1, x1, x2, x349000, x349001 => if x2 > x1 then (if 0 ≤ x2 then (if x2 < (x349000.length : Int) then (calamusref11_on.l0 k x1 ((rd_T69 x349000 x2).f0) x349000 x349001) else (none)) else (none)) else (some (x2 == x1))
def calamusref11_on.f (k : Nat) (l0_0 : List (S69)) (a0_1 : Int) (a1 : Int) (a2 : Int) : Option (Bool) := calamusref11_on.l0 k a1 a2 l0_0 a0_1
theorem calamusref11_on.mono_l : ∀ k, (∀ y0 y1 y2 y3, LeO (calamusref11_on.l0 k y0 y1 y2 y3) (calamusref11_on.l0 (k + 1) y0 y1 y2 y3))
 | 0 => fun _ _ _ _ r h => by simp [calamusref11_on.l0] at h
 | k + 1 => by
  have ih0 := calamusref11_on.mono_l k
  ·intro y0 y1 y2 y3
   unfold calamusref11_on.l0
   repeat' first
   | (with_reducible exact ih0 _ _ _ _)
   | (with_reducible exact LeO.refl _)
   | (with_reducible exact LeO.none _)
   | (with_reducible refine LeO.ite ?_ ?_)
   | (with_reducible refine LeO.bind ?_ (fun _ => ?_))
   | exact ih0 _ _ _ _
   | exact LeO.none _
   | refine LeO.ite ?_ ?_
   | refine LeO.bind ?_ (fun _ => ?_)
theorem calamusref11_on.mono : ∀ a0 a1 a2 a3 k, LeO (calamusref11_on.f k a0 a1 a2 a3) (calamusref11_on.f (k + 1) a0 a1 a2 a3) := by
 intro a0 a1 a2 a3 k
 have ih0 := calamusref11_on.mono_l k
 unfold calamusref11_on.f
 repeat' first
   | (with_reducible exact ih0 _ _ _ _)
   | (with_reducible exact LeO.refl _)
   | (with_reducible exact LeO.none _)
   | (with_reducible refine LeO.ite ?_ ?_)
   | (with_reducible refine LeO.bind ?_ (fun _ => ?_))
   | exact ih0 _ _ _ _
   | exact LeO.none _
   | refine LeO.ite ?_ ?_
   | refine LeO.bind ?_ (fun _ => ?_)
set_option maxHeartbeats 8000000 in
set_option maxRecDepth 100000 in
theorem calamusref11_on.calls (k : Nat) (A0_0 : Option Addr) (c0_0 : Nat) (l0_0 : List (S69)) (a0_1 : Int) (a1 : Int) (a2 : Int) (r : Bool) (w : World) (hr0_0 : Kd.C k69 w A0_0 l0_0.length l0_0) (hc0_0 : l0_0.length ≤ c0_0) (h : calamusref11_on.f k l0_0 a0_1 a1 a2 = some r) :
  Calls Try.prog 89 #[.agg #[.slice A0_0 l0_0.length c0_0, .int .i64 a0_1], .int .i64 a1, .int .i64 a2] w fun e w' => e = .returned (.bool r) ∧ Below w.heap.size w w' := by
 have hu46 := Try.underlying46
 have HR0_0 := Aside0.mk hr0_0
 have HC0_0 := Aside0.mk hc0_0
 clear hr0_0 hc0_0
 have HB := Aside0.mk (Below.refl w.heap.size w)
 have H : (calamusref11_on.l0 k a1 a2 l0_0 a0_1) = some r := h
 clear h
 have H' := Aside0.mk H
 clear H
 go_enter Try.func89, Try.ntmps89
 go_wp2_with (first | ((with_reducible refine gate_dst (N := 3) rfl ?_); refine be_ (N := 3) (cs := #[.slice A0_0 l0_0.length c0_0, .int .i64 a0_1]) (t := 46) (h := ?_); intro gb348 hg w4 hbox hb; have BK348 := Aside0.mk (hbox); have GW348 := gw_ HB hg; have GE348 := gw_ HB hg; replace HB := bs_ HB hb; clear hb hbox hg))
 go_loopg [2] k (fun kq v2 w' => ∃ (x2_1 : Int), v2 = .int .i64 x2_1 ∧ Aside0 (calamusref11_on.l0 kq a1 x2_1 l0_0 a0_1 = some r) ∧ Aside0 (kq ≤ k) ∧ Aside0 (w'.heap[gb348]? = some (.cells #[(.slice A0_0 l0_0.length c0_0), .int .i64 a0_1] 46 (0, 0))) ∧ Aside0 (Below w.heap.size w w'))
 case atStart => exact ⟨(a2), es_, H', ⟨Nat.le_refl _⟩, ⟨bw_ BK348.out⟩, ⟨hb_ HB⟩⟩
 case round =>
  clear H'
  obtain ⟨x2_1, rfl, HA, HK1, BK348, HB⟩ := hrel
  cases gk with
  | zero => exact absurd HA.out (by simp [calamusref11_on.l0])
  | succ k1 =>
   have H := HA.out
   clear HA
   simp only [calamusref11_on.l0] at H
   by_cases c5 : x2_1 > a1
   ·rw [if_pos c5] at H
    have c5b0 : decide (a1 < x2_1) = true := decide_eq_true c5
    clear c5
    by_cases c6 : 0 ≤ x2_1
    ·rw [if_pos c6] at H
     have c6b0 : decide (0 ≤ x2_1) = true := decide_eq_true c6
     clear c6
     by_cases c7 : x2_1 < (l0_0.length : Int)
     ·rw [if_pos c7] at H
      have c7b0 : decide (x2_1 < (l0_0.length : Int)) = true := decide_eq_true c7
      clear c7
      have H' := Aside0.mk H
      clear H
      obtain ⟨hcz8_0, hcz8_1, hfz8_0, hfz8_1⟩ := bc2_ BK348
      have p349 : 0 ≤ (x2_1 : Int) := of_decide_eq_true as_
      have q349 : x2_1 < (l0_0.length : Int) := of_decide_eq_true as_
      obtain ⟨ad349, e349, hx349_0, hx349_1, hx349_2, hx349_3, hx349_4, hx349_5, hx349_6⟩ := at_T69b HR0_0 HB x2_1 p349 q349
      cases e349
      replace p349 := eq_true p349
      replace q349 := eq_true q349
      go_wp2
      go_roundg k1
      case measure => have := HK1.out; omega
      case rel => exact ⟨((rd_T69 l0_0 x2_1).f0), es_, H', ⟨by have := HK1.out; omega⟩, ⟨bw_ BK348.out⟩, ⟨hb_ HB⟩⟩
     ·rw [if_neg c7] at H
      exact absurd H (by simp)
    ·rw [if_neg c6] at H
     exact absurd H (by simp)
   ·rw [if_neg c5] at H
    have c5b0 : decide (a1 < x2_1) = false := decide_eq_false c5
    clear c5
    obtain rfl := Option.some.inj H
    go_wp2
    go_ret
    exact ⟨er_, hb_ HB⟩

end Go.Proofs.Ytkiokimpblimcaa.PTreeTexts
