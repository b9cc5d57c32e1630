/- Of the law calamus/calamuslaw11.TreeTexts: each function as a plain Lean function, with a proof that the call comes to it; the row. By wip/tpl/own_print.py. Conditions: none but the row's own. -/
import Derived.Test.YtkiokimpblimcaaOTreeTextsx0
import Derived.Test.YtkiokimpblimcaaOTreeTextsx7
import Derived.Test.YtkiokimpblimcaaOTreeTextsx9
import Derived.Test.YtkiokimpblimcaaOTreeTextsx14
namespace Go.Proofs.Ytkiokimpblimcaa.PTreeTexts
open Go.RowKit Go.Proofs.YtkiokimpblimcaaW.PrintWords Go.Proofs.YtkiokimpblimcaaW.PrintLast Go.Proofs.YtkiokimpblimcaaW.PrintMore
attribute [local go_sem] max2_int min2_int max_two min_two max_three min_three max_four min_four   -- for this text's walks alone
set_option linter.unusedVariables false
set_option linter.unusedSimpArgs false

/-! ### calamusref11_Alike: function 57 -/
def calamusref11_Alike.l0 : Nat → List ByteArray → List ByteArray → Int → Option (Bool)
 | 0, _, _, _ => none
 | k + 1, x0, x1, x5 => if x5 < (x0.length : Int) then (if 0 ≤ x5 then (if x5 < (x1.length : Int) then (if (rdOf ByteArray.empty x0 x5).toList = (rdOf ByteArray.empty x1 x5).toList then (calamusref11_Alike.l0 k x0 x1 (wrap64 (x5 + 1))) else (some false)) else (none)) else (none)) else (some true)
def calamusref11_Alike.f (k : Nat) (l0 : List ByteArray) (l1 : List ByteArray) : Option (Bool) := if (l0.length : Int) = (l1.length : Int) then (calamusref11_Alike.l0 k l0 l1 0) else (some false)
theorem calamusref11_Alike.mono_l : ∀ k, (∀ y0 y1 y2, LeO (calamusref11_Alike.l0 k y0 y1 y2) (calamusref11_Alike.l0 (k + 1) y0 y1 y2))
 | 0 => fun _ _ _ r h => by simp [calamusref11_Alike.l0] at h
 | k + 1 => by
  have ih0 := calamusref11_Alike.mono_l k
  ·intro y0 y1 y2
   unfold calamusref11_Alike.l0
   repeat' first
   | (with_reducible exact ih0 _ _ _)
   | (with_reducible exact LeO.refl _)
   | (with_reducible exact LeO.none _)
   | (with_reducible refine LeO.ite ?_ ?_)
   | (with_reducible refine LeO.bind ?_ (fun _ => ?_))
   | exact ih0 _ _ _
   | exact LeO.none _
   | refine LeO.ite ?_ ?_
   | refine LeO.bind ?_ (fun _ => ?_)
theorem calamusref11_Alike.mono : ∀ a0 a1 k, LeO (calamusref11_Alike.f k a0 a1) (calamusref11_Alike.f (k + 1) a0 a1) := by
 intro a0 a1 k
 have ih0 := calamusref11_Alike.mono_l k
 unfold calamusref11_Alike.f
 repeat' first
   | (with_reducible exact ih0 _ _ _)
   | (with_reducible exact LeO.refl _)
   | (with_reducible exact LeO.none _)
   | (with_reducible refine LeO.ite ?_ ?_)
   | (with_reducible refine LeO.bind ?_ (fun _ => ?_))
   | exact ih0 _ _ _
   | exact LeO.none _
   | refine LeO.ite ?_ ?_
   | refine LeO.bind ?_ (fun _ => ?_)
set_option maxHeartbeats 8000000 in
set_option maxRecDepth 100000 in
theorem calamusref11_Alike.calls (k : Nat) (A0 : Option Addr) (c0 : Nat) (l0 : List ByteArray) (A1 : Option Addr) (c1 : Nat) (l1 : List ByteArray) (r : Bool) (w : World) (hr0 : Kd.C Kd.string w A0 l0.length l0) (hc0 : l0.length ≤ c0) (hr1 : Kd.C Kd.string w A1 l1.length l1) (hc1 : l1.length ≤ c1) (h : calamusref11_Alike.f k l0 l1 = some r) :
  Calls Try.prog 57 #[.slice A0 l0.length c0, .slice A1 l1.length c1] w fun e w' => e = .returned (.bool r) ∧ Drawn0 w w' := by
 have HR0 := Aside0.mk hr0
 have HC0 := Aside0.mk hc0
 clear hr0 hc0
 have HR1 := Aside0.mk hr1
 have HC1 := Aside0.mk hc1
 clear hr1 hc1
 have H : (if (l0.length : Int) = (l1.length : Int) then (calamusref11_Alike.l0 k l0 l1 0) else (some false)) = some r := h
 clear h
 by_cases c3 : (l0.length : Int) = (l1.length : Int)
 ·rw [if_pos c3] at H
  have c3b0 : ((l0.length : Int) == (l1.length : Int)) = true := beq_iff_eq.mpr c3
  have c3b1 : ((l0.length : Int) != (l1.length : Int)) = false := bne_eq_false_iff_eq.mpr c3
  have c3b2 : (l0.length == l1.length) = true := by first | simpa using c3 | (simp at c3 ⊢; omega)
  clear c3
  have H' := Aside0.mk H
  clear H
  go_enter Try.func57, Try.ntmps57
  go_wp2
  repeat (go_quiet (fail); try go_wp2)
  go_loopg [5] k (fun kq v5 w' => ∃ (x5_1 : Int), v5 = .int .i64 x5_1 ∧ Aside0 (calamusref11_Alike.l0 kq l0 l1 x5_1 = some r) ∧ Aside0 (kq ≤ k) ∧ Drawn0 w w')
  case atStart => exact ⟨(0), es_, H', ⟨Nat.le_refl _⟩, by repeat (first | exact Drawn0.refl _ | apply Drawn0.step)⟩
  case round =>
   clear H'
   try clear c3
   try clear c3b0
   try clear c3b1
   try clear c3b2
   obtain ⟨x5_1, rfl, HA, HK1, ⟨m1, rfl⟩⟩ := hrel
   cases gk with
   | zero => exact absurd HA.out (by simp [calamusref11_Alike.l0])
   | succ k1 =>
    have H := HA.out
    clear HA
    simp only [calamusref11_Alike.l0] at H
    by_cases c4 : x5_1 < (l0.length : Int)
    ·rw [if_pos c4] at H
     have c4b0 : decide (x5_1 < (l0.length : Int)) = true := decide_eq_true c4
     clear c4
     by_cases c5 : 0 ≤ x5_1
     ·rw [if_pos c5] at H
      have c5b0 : decide (0 ≤ x5_1) = true := decide_eq_true c5
      clear c5
      by_cases c6 : x5_1 < (l1.length : Int)
      ·rw [if_pos c6] at H
       have c6b0 : decide (x5_1 < (l1.length : Int)) = true := decide_eq_true c6
       clear c6
       by_cases c7 : (rdOf ByteArray.empty l0 x5_1).toList = (rdOf ByteArray.empty l1 x5_1).toList
       ·rw [if_pos c7] at H
        have c7b0 : ((rdOf ByteArray.empty l0 x5_1).toList == (rdOf ByteArray.empty l1 x5_1).toList) = true := beq_iff_eq.mpr c7
        have c7b1 : ((rdOf ByteArray.empty l0 x5_1).toList != (rdOf ByteArray.empty l1 x5_1).toList) = false := bne_eq_false_iff_eq.mpr c7
        clear c7
        have H' := Aside0.mk H
        clear H
        have p377 : 0 ≤ (x5_1 : Int) := of_decide_eq_true as_
        have q377 : x5_1 < (l0.length : Int) := of_decide_eq_true as_
        obtain ⟨ad377, e377, hx377_0⟩ := Kd.at_string HR0.out x5_1 p377 q377
        cases e377
        replace p377 := eq_true p377
        replace q377 := eq_true q377
        have p378 : 0 ≤ (x5_1 : Int) := of_decide_eq_true as_
        have q378 : x5_1 < (l1.length : Int) := of_decide_eq_true as_
        obtain ⟨ad378, e378, hx378_0⟩ := Kd.at_string HR1.out x5_1 p378 q378
        cases e378
        replace p378 := eq_true p378
        replace q378 := eq_true q378
        go_wp2
        repeat (go_quiet (fail); try go_wp2)
        go_roundg k1
        case measure => have := HK1.out; omega
        case rel => exact ⟨(wrap64 (x5_1 + 1)), es_, H', ⟨by have := HK1.out; omega⟩, by repeat (first | exact Drawn0.refl _ | apply Drawn0.step)⟩
       ·rw [if_neg c7] at H
        have c7b0 : ((rdOf ByteArray.empty l0 x5_1).toList == (rdOf ByteArray.empty l1 x5_1).toList) = false := beq_eq_false_iff_ne.mpr c7
        have c7b1 : ((rdOf ByteArray.empty l0 x5_1).toList != (rdOf ByteArray.empty l1 x5_1).toList) = true := bne_iff_ne.mpr c7
        obtain rfl := Option.some.inj H
        have p377 : 0 ≤ (x5_1 : Int) := of_decide_eq_true as_
        have q377 : x5_1 < (l0.length : Int) := of_decide_eq_true as_
        obtain ⟨ad377, e377, hx377_0⟩ := Kd.at_string HR0.out x5_1 p377 q377
        cases e377
        replace p377 := eq_true p377
        replace q377 := eq_true q377
        have p378 : 0 ≤ (x5_1 : Int) := of_decide_eq_true as_
        have q378 : x5_1 < (l1.length : Int) := of_decide_eq_true as_
        obtain ⟨ad378, e378, hx378_0⟩ := Kd.at_string HR1.out x5_1 p378 q378
        cases e378
        replace p378 := eq_true p378
        replace q378 := eq_true q378
        go_wp2
        repeat (go_quiet (fail); try go_wp2)
        go_ret
        exact ⟨by first | rfl | (simp; done) | (simp [*]; done), by repeat (first | exact Drawn0.refl _ | apply Drawn0.step)⟩
      ·rw [if_neg c6] at H
       exact absurd H (by simp)
     ·rw [if_neg c5] at H
      exact absurd H (by simp)
    ·rw [if_neg c4] at H
     have c4b0 : decide (x5_1 < (l0.length : Int)) = false := decide_eq_false c4
     clear c4
     obtain rfl := Option.some.inj H
     go_wp2
     repeat (go_quiet (fail); try go_wp2)
     go_ret
     exact ⟨by first | rfl | (simp; done) | (simp [*]; done), by repeat (first | exact Drawn0.refl _ | apply Drawn0.step)⟩
 ·rw [if_neg c3] at H
  have c3b0 : ((l0.length : Int) == (l1.length : Int)) = false := beq_eq_false_iff_ne.mpr c3
  have c3b1 : ((l0.length : Int) != (l1.length : Int)) = true := bne_iff_ne.mpr c3
  have c3b2 : (l0.length == l1.length) = false := by first | simpa using c3 | (simp at c3 ⊢; omega)
  obtain rfl := Option.some.inj H
  go_enter Try.func57, Try.ntmps57
  go_wp2
  repeat (go_quiet (fail); try go_wp2)
  go_ret
  exact ⟨by first | rfl | (simp; done) | (simp [*]; done), by repeat (first | exact Drawn0.refl _ | apply Drawn0.step)⟩

/-! ### calamuslaw11_TreeTexts: function 12 -/
mutual
def calamuslaw11_TreeTexts.j1 : Nat → ByteArray → Int → List (S69) → Int → Option (Bool)
 | 0, _, _, _, _ => none
 | k + 1, x1, x5, x380000, x380001 => if (x380000.length : Int) > 60 then (calamuslaw11_TreeTexts.j2 k x1 true x380000 x380001) else (calamuslaw11_TreeTexts.j2 k x1 (decide (x5 > 3000)) x380000 x380001)
def calamuslaw11_TreeTexts.j2 : Nat → ByteArray → Bool → List (S69) → Int → Option (Bool)
 | 0, _, _, _, _ => none
 | k + 1, x1, x50, x380000, x380001 => if x50 = true then ((calamuslaw11_lives.f k).bind fun t382 => (some t382)) else ((tree_Texts.f k x380000 x380001 x1).bind fun bt383 => ((calamusref11_Texts.f k x380000 x380001 x1).bind fun bt387 => ((calamusref11_Alike.f k bt383.1 bt387.1).bind fun t391 => (if t391 = true then (if bt383.2 = bt387.2 then ((calamuslaw11_lives.f k).bind fun t392 => (some t392)) else (some false)) else (some false)))))
def calamuslaw11_TreeTexts.l0 : Nat → ByteArray → Int → Int → List (S69) → Int → Option (Bool)
 | 0, _, _, _, _, _ => none
 | k + 1, x1, x5, x6, x380000, x380001 => if x6 < (x380000.length : Int) then (if x6 < 61 then (if 0 ≤ x6 then (calamuslaw11_TreeTexts.l0 k x1 (wrap64 (x5 + (wrap64 ((((rd_T69 x380000 x6).f4.f1).size : Int) + (((rd_T69 x380000 x6).f4.f2).size : Int))))) (wrap64 (x6 + 1)) x380000 x380001) else (none)) else (calamuslaw11_TreeTexts.j1 k x1 x5 x380000 x380001)) else (calamuslaw11_TreeTexts.j1 k x1 x5 x380000 x380001)
end
def calamuslaw11_TreeTexts.f (k : Nat) (l0_0 : List (S69)) (a0_1 : Int) (a1 : ByteArray) : Option (Bool) := calamuslaw11_TreeTexts.l0 k a1 (a1.size : Int) 0 l0_0 a0_1
theorem calamuslaw11_TreeTexts.mono_l : ∀ k, (∀ y0 y1 y2 y3, LeO (calamuslaw11_TreeTexts.j1 k y0 y1 y2 y3) (calamuslaw11_TreeTexts.j1 (k + 1) y0 y1 y2 y3)) ∧ (∀ y0 y1 y2 y3, LeO (calamuslaw11_TreeTexts.j2 k y0 y1 y2 y3) (calamuslaw11_TreeTexts.j2 (k + 1) y0 y1 y2 y3)) ∧ (∀ y0 y1 y2 y3 y4, LeO (calamuslaw11_TreeTexts.l0 k y0 y1 y2 y3 y4) (calamuslaw11_TreeTexts.l0 (k + 1) y0 y1 y2 y3 y4))
 | 0 => ⟨fun _ _ _ _ r h => by simp [calamuslaw11_TreeTexts.j1] at h, fun _ _ _ _ r h => by simp [calamuslaw11_TreeTexts.j2] at h, fun _ _ _ _ _ r h => by simp [calamuslaw11_TreeTexts.l0] at h⟩
 | k + 1 => by
  obtain ⟨ih0, ih1, ih2⟩ := calamuslaw11_TreeTexts.mono_l k
  refine ⟨?_, ?_, ?_⟩
  ·intro y0 y1 y2 y3
   unfold calamuslaw11_TreeTexts.j1
   repeat' first
   | (with_reducible exact ih0 _ _ _ _)
   | (with_reducible exact ih1 _ _ _ _)
   | (with_reducible exact ih2 _ _ _ _ _)
   | (with_reducible exact calamuslaw11_lives.mono _)
   | (with_reducible exact calamusref11_Alike.mono _ _ _)
   | (with_reducible exact calamusref11_Texts.mono _ _ _ _)
   | (with_reducible exact tree_Texts.mono _ _ _ _)
   | (with_reducible exact LeO.refl _)
   | (with_reducible exact LeO.none _)
   | (with_reducible refine LeO.ite ?_ ?_)
   | (with_reducible refine LeO.bind ?_ (fun _ => ?_))
   | exact ih0 _ _ _ _
   | exact ih1 _ _ _ _
   | exact ih2 _ _ _ _ _
   | exact calamuslaw11_lives.mono _
   | exact calamusref11_Alike.mono _ _ _
   | exact calamusref11_Texts.mono _ _ _ _
   | exact tree_Texts.mono _ _ _ _
   | exact LeO.none _
   | refine LeO.ite ?_ ?_
   | refine LeO.bind ?_ (fun _ => ?_)
  ·intro y0 y1 y2 y3
   unfold calamuslaw11_TreeTexts.j2
   repeat' first
   | (with_reducible exact ih0 _ _ _ _)
   | (with_reducible exact ih1 _ _ _ _)
   | (with_reducible exact ih2 _ _ _ _ _)
   | (with_reducible exact calamuslaw11_lives.mono _)
   | (with_reducible exact calamusref11_Alike.mono _ _ _)
   | (with_reducible exact calamusref11_Texts.mono _ _ _ _)
   | (with_reducible exact tree_Texts.mono _ _ _ _)
   | (with_reducible exact LeO.refl _)
   | (with_reducible exact LeO.none _)
   | (with_reducible refine LeO.ite ?_ ?_)
   | (with_reducible refine LeO.bind ?_ (fun _ => ?_))
   | exact ih0 _ _ _ _
   | exact ih1 _ _ _ _
   | exact ih2 _ _ _ _ _
   | exact calamuslaw11_lives.mono _
   | exact calamusref11_Alike.mono _ _ _
   | exact calamusref11_Texts.mono _ _ _ _
   | exact tree_Texts.mono _ _ _ _
   | exact LeO.none _
   | refine LeO.ite ?_ ?_
   | refine LeO.bind ?_ (fun _ => ?_)
  ·intro y0 y1 y2 y3 y4
   unfold calamuslaw11_TreeTexts.l0
   repeat' first
   | (with_reducible exact ih0 _ _ _ _)
   | (with_reducible exact ih1 _ _ _ _)
   | (with_reducible exact ih2 _ _ _ _ _)
   | (with_reducible exact calamuslaw11_lives.mono _)
   | (with_reducible exact calamusref11_Alike.mono _ _ _)
   | (with_reducible exact calamusref11_Texts.mono _ _ _ _)
   | (with_reducible exact tree_Texts.mono _ _ _ _)
   | (with_reducible exact LeO.refl _)
   | (with_reducible exact LeO.none _)
   | (with_reducible refine LeO.ite ?_ ?_)
   | (with_reducible refine LeO.bind ?_ (fun _ => ?_))
   | exact ih0 _ _ _ _
   | exact ih1 _ _ _ _
   | exact ih2 _ _ _ _ _
   | exact calamuslaw11_lives.mono _
   | exact calamusref11_Alike.mono _ _ _
   | exact calamusref11_Texts.mono _ _ _ _
   | exact tree_Texts.mono _ _ _ _
   | exact LeO.none _
   | refine LeO.ite ?_ ?_
   | refine LeO.bind ?_ (fun _ => ?_)
theorem calamuslaw11_TreeTexts.mono : ∀ a0 a1 a2 k, LeO (calamuslaw11_TreeTexts.f k a0 a1 a2) (calamuslaw11_TreeTexts.f (k + 1) a0 a1 a2) := by
 intro a0 a1 a2 k
 obtain ⟨ih0, ih1, ih2⟩ := calamuslaw11_TreeTexts.mono_l k
 unfold calamuslaw11_TreeTexts.f
 repeat' first
   | (with_reducible exact ih0 _ _ _ _)
   | (with_reducible exact ih1 _ _ _ _)
   | (with_reducible exact ih2 _ _ _ _ _)
   | (with_reducible exact calamuslaw11_lives.mono _)
   | (with_reducible exact calamusref11_Alike.mono _ _ _)
   | (with_reducible exact calamusref11_Texts.mono _ _ _ _)
   | (with_reducible exact tree_Texts.mono _ _ _ _)
   | (with_reducible exact LeO.refl _)
   | (with_reducible exact LeO.none _)
   | (with_reducible refine LeO.ite ?_ ?_)
   | (with_reducible refine LeO.bind ?_ (fun _ => ?_))
   | exact ih0 _ _ _ _
   | exact ih1 _ _ _ _
   | exact ih2 _ _ _ _ _
   | exact calamuslaw11_lives.mono _
   | exact calamusref11_Alike.mono _ _ _
   | exact calamusref11_Texts.mono _ _ _ _
   | exact tree_Texts.mono _ _ _ _
   | exact LeO.none _
   | refine LeO.ite ?_ ?_
   | refine LeO.bind ?_ (fun _ => ?_)
set_option maxHeartbeats 8000000 in
set_option maxRecDepth 100000 in
theorem calamuslaw11_TreeTexts.calls (k : Nat) (A0_0 : Option Addr) (c0_0 : Nat) (l0_0 : List (S69)) (a0_1 : Int) (a1 : ByteArray) (r : Bool) (w : World) (hr0_0 : Kd.C k69 w A0_0 l0_0.length l0_0) (hc0_0 : l0_0.length ≤ c0_0) (h : calamuslaw11_TreeTexts.f k l0_0 a0_1 a1 = some r) (hr_ : r = true := by rfl) :
  Calls Try.prog 12 #[.agg #[.slice A0_0 l0_0.length c0_0, .int .i64 a0_1], .string a1] w fun e w' => e = .returned (.bool r) ∧ Below w.heap.size w w' := by
 have hu46 := Try.underlying46
 have HR0_0 := Aside0.mk hr0_0
 have HC0_0 := Aside0.mk hc0_0
 clear hr0_0 hc0_0
 have HB := Aside0.mk (Below.refl w.heap.size w)
 have H : (calamuslaw11_TreeTexts.l0 k a1 (a1.size : Int) 0 l0_0 a0_1) = some r := h
 clear h
 have HC3 := Aside0.mk H
 clear H
 go_enter Try.func12, Try.ntmps12
 go_upto_block 0 with (first | ((with_reducible refine gate_dst (N := 2) rfl ?_); refine be_ (N := 2) (cs := #[.slice A0_0 l0_0.length c0_0, .int .i64 a0_1]) (t := 46) (h := ?_); intro gb379 hg w4 hbox hb; have BK379 := Aside0.mk (hbox); have GW379 := gw_ HB hg; have GE379 := gw_ HB hg; replace HB := bs_ HB hb; clear hb hbox hg))
 repeat (go_quiet (first | ((with_reducible refine gate_dst (N := 2) rfl ?_); refine be_ (N := 2) (cs := #[.slice A0_0 l0_0.length c0_0, .int .i64 a0_1]) (t := 46) (h := ?_); intro gb379 hg w4 hbox hb; have BK379 := Aside0.mk (hbox); have GW379 := gw_ HB hg; have GE379 := gw_ HB hg; replace HB := bs_ HB hb; clear hb hbox hg)); go_upto_block 0 with (first | ((with_reducible refine gate_dst (N := 2) rfl ?_); refine be_ (N := 2) (cs := #[.slice A0_0 l0_0.length c0_0, .int .i64 a0_1]) (t := 46) (h := ?_); intro gb379 hg w4 hbox hb; have BK379 := Aside0.mk (hbox); have GW379 := gw_ HB hg; have GE379 := gw_ HB hg; replace HB := bs_ HB hb; clear hb hbox hg)))
 (try simp only [Act.put, List.setIfInBounds_toArray, List.set_cons_zero, List.set_cons_succ])
 go_cut [5] (fun v5 wc => ∃ (kq : Nat) (x5_2 : Int), v5 = .int .i64 x5_2 ∧ Aside0 (calamuslaw11_TreeTexts.j1 kq a1 x5_2 l0_0 a0_1 = some r) ∧ Aside0 (kq ≤ k) ∧ Aside0 (wc.heap[gb379]? = some (.cells #[(.slice A0_0 l0_0.length c0_0), .int .i64 a0_1] 46 (0, 0))) ∧ Aside0 (Below w.heap.size w wc))
 case first =>
  have H := HC3.out
  clear HC3
  have H' := Aside0.mk H
  clear H
  go_wp2
  repeat (go_quiet (fail); try go_wp2)
  go_loopg [5, 6] k (fun kq v5 v6 w' => ∃ (x5_1 : Int) (x6_1 : Int), v5 = .int .i64 x5_1 ∧ v6 = .int .i64 x6_1 ∧ Aside0 (calamuslaw11_TreeTexts.l0 kq a1 x5_1 x6_1 l0_0 a0_1 = some r) ∧ Aside0 (kq ≤ k) ∧ Aside0 (w'.heap[gb379]? = some (.cells #[(.slice A0_0 l0_0.length c0_0), .int .i64 a0_1] 46 (0, 0))) ∧ Aside0 (Below w.heap.size w w'))
  case atStart => exact ⟨((a1.size : Int)), (0), es_, es_, H', ⟨Nat.le_refl _⟩, ⟨bw_ BK379.out⟩, ⟨hb_ HB⟩⟩
  case round =>
   clear H'
   obtain ⟨x5_1, x6_1, rfl, rfl, HA, HK1, BK379, HB⟩ := hrel
   cases gk with
   | zero => exact absurd HA.out (by simp [calamuslaw11_TreeTexts.l0])
   | succ k1 =>
    have H := HA.out
    clear HA
    simp only [calamuslaw11_TreeTexts.l0] at H
    by_cases c5 : x6_1 < (l0_0.length : Int)
    ·rw [if_pos c5] at H
     have c5b0 : decide (x6_1 < (l0_0.length : Int)) = true := decide_eq_true c5
     clear c5
     (first | rw [c5b0] | (simp only [i64_w, i32_w]; rw [c5b0]) | skip)
     by_cases c6 : x6_1 < 61
     ·rw [if_pos c6] at H
      have c6b0 : decide (x6_1 < 61) = true := decide_eq_true c6
      clear c6
      by_cases c7 : 0 ≤ x6_1
      ·rw [if_pos c7] at H
       have c7b0 : decide (0 ≤ x6_1) = true := decide_eq_true c7
       clear c7
       have H' := Aside0.mk H
       clear H
       obtain ⟨hcz8_0, hcz8_1, hfz8_0, hfz8_1⟩ := bc2_ BK379
       have p380 : 0 ≤ (x6_1 : Int) := of_decide_eq_true as_
       have q380 : x6_1 < (l0_0.length : Int) := of_decide_eq_true as_
       obtain ⟨ad380, e380, hx380_0, hx380_1, hx380_2, hx380_3, hx380_4, hx380_5, hx380_6⟩ := at_T69b HR0_0 HB x6_1 p380 q380
       cases e380
       replace p380 := eq_true p380
       replace q380 := eq_true q380
       have p381 : 0 ≤ (x6_1 : Int) := of_decide_eq_true as_
       have q381 : x6_1 < (l0_0.length : Int) := of_decide_eq_true as_
       obtain ⟨ad381, e381, hx381_0, hx381_1, hx381_2, hx381_3, hx381_4, hx381_5, hx381_6⟩ := at_T69b HR0_0 HB x6_1 p381 q381
       obtain rfl : ad380 = ad381 := (by injection e381)
       replace p381 := eq_true p381
       replace q381 := eq_true q381
       go_wp2
       repeat (go_quiet (fail); try go_wp2)
       go_roundg k1
       case measure => have := HK1.out; omega
       case rel => exact ⟨(wrap64 (x5_1 + (wrap64 ((((rd_T69 l0_0 x6_1).f4.f1).size : Int) + (((rd_T69 l0_0 x6_1).f4.f2).size : Int))))), (wrap64 (x6_1 + 1)), es_, es_, H', ⟨by have := HK1.out; omega⟩, ⟨bw_ BK379.out⟩, ⟨hb_ HB⟩⟩
      ·rw [if_neg c7] at H
       exact absurd H (by simp)
     ·rw [if_neg c6] at H
      have c6b0 : decide (x6_1 < 61) = false := decide_eq_false c6
      clear c6
      have H' := Aside0.mk H
      clear H
      obtain ⟨hcz9_0, hcz9_1, hfz9_0, hfz9_1⟩ := bc2_ BK379
      go_wp2
      repeat (go_quiet (fail); try go_wp2)
      go_meet
      case rel => exact ⟨_, (x5_1), es_, H', ⟨by have := HK1.out; first | omega | exact Nat.le_refl _⟩, ⟨bw_ BK379.out⟩, ⟨hb_ HB⟩⟩
    ·rw [if_neg c5] at H
     have c5b0 : decide (x6_1 < (l0_0.length : Int)) = false := decide_eq_false c5
     clear c5
     (first | rw [c5b0] | (simp only [i64_w, i32_w]; rw [c5b0]) | skip)
     have H' := Aside0.mk H
     clear H
     obtain ⟨hcz10_0, hcz10_1, hfz10_0, hfz10_1⟩ := bc2_ BK379
     go_wp2
     repeat (go_quiet (fail); try go_wp2)
     go_meet
     case rel => exact ⟨_, (x5_1), es_, H', ⟨by have := HK1.out; first | omega | exact Nat.le_refl _⟩, ⟨bw_ BK379.out⟩, ⟨hb_ HB⟩⟩
 case rest =>
  clear HC3
  obtain ⟨kq, x5_2, rfl, HA, HJ2, BK379, HB⟩ := hcut
  cases kq with
  | zero => exact absurd HA.out (by simp [calamuslaw11_TreeTexts.j1])
  | succ kj2 =>
   have H := HA.out
   clear HA
   simp only [calamuslaw11_TreeTexts.j1] at H
   have HC11 := Aside0.mk H
   clear H
   go_upto_region 6 with (fail)
   repeat (go_quiet (fail); go_upto_region 6 with (fail))
   go_cut [50] (fun v50 wc => ∃ (kq : Nat) (x50_10 : Bool), v50 = .bool x50_10 ∧ Aside0 (calamuslaw11_TreeTexts.j2 kq a1 x50_10 l0_0 a0_1 = some r) ∧ Aside0 (kq ≤ kj2) ∧ Aside0 (wc.heap[gb379]? = some (.cells #[(.slice A0_0 l0_0.length c0_0), .int .i64 a0_1] 46 (0, 0))) ∧ Aside0 (Below w.heap.size w wc))
   case first =>
    have H := HC11.out
    clear HC11
    by_cases c12 : (l0_0.length : Int) > 60
    ·rw [if_pos c12] at H
     have c12b0 : decide (60 < (l0_0.length : Int)) = true := decide_eq_true c12
     have c12b1 : decide (60 < l0_0.length) = true := decide_eq_true (by omega)
     clear c12
     (first | rw [c12b0] | (simp only [i64_w, i32_w]; rw [c12b0]) | skip)
     have H' := Aside0.mk H
     clear H
     obtain ⟨hcz13_0, hcz13_1, hfz13_0, hfz13_1⟩ := bc2_ BK379
     go_wp2
     repeat (go_quiet (fail); try go_wp2)
     go_meet
     case rel => exact ⟨_, (true), es_, H', ⟨by have := HJ2.out; first | omega | exact Nat.le_refl _⟩, ⟨bw_ BK379.out⟩, ⟨hb_ HB⟩⟩
    ·rw [if_neg c12] at H
     have c12b0 : decide (60 < (l0_0.length : Int)) = false := decide_eq_false c12
     have c12b1 : decide (60 < l0_0.length) = false := decide_eq_false (by omega)
     clear c12
     (first | rw [c12b0] | (simp only [i64_w, i32_w]; rw [c12b0]) | skip)
     have H' := Aside0.mk H
     clear H
     obtain ⟨hcz14_0, hcz14_1, hfz14_0, hfz14_1⟩ := bc2_ BK379
     go_wp2
     repeat (go_quiet (fail); try go_wp2)
     go_meet
     case rel => exact ⟨_, (decide (x5_2 > 3000)), es_, H', ⟨by have := HJ2.out; first | omega | exact Nat.le_refl _⟩, ⟨bw_ BK379.out⟩, ⟨hb_ HB⟩⟩
   case rest =>
    clear HC11
    obtain ⟨kq, x50_10, rfl, HA, HJ10, BK379, HB⟩ := hcut
    cases kq with
    | zero => exact absurd HA.out (by simp [calamuslaw11_TreeTexts.j2])
    | succ kj10 =>
     have H := HA.out
     clear HA
     simp only [calamuslaw11_TreeTexts.j2] at H
     by_cases c15 : x50_10 = true
     ·subst c15
      have H1 : ((calamuslaw11_lives.f kj10).bind fun t382 => (some t382)) = some r := by rw [if_pos rfl] at H; exact H
      clear H
      have H := H1
      clear H1
      replace H := Option.bind_eq_some_iff.mp H
      obtain ⟨t382, A160, H⟩ := H
      replace H : (some t382) = some r := H
      have A16 := Aside0.mk A160
      clear A160
      obtain rfl := Option.some.inj H
      go_wp2_with (first | (go_at_call 33; (with_reducible refine (calamuslaw11_lives.calls kj10  t382 _ A16.out).mono ?_); rintro e w17 ⟨rfl, hb⟩; replace BK379 := bb_ BK379 hb; replace HB := bs_ HB hb; (try clear hb); (try clear hb2); (try clear hk); (try clear hi)))
      repeat (go_quiet (first | (go_at_call 33; (with_reducible refine (calamuslaw11_lives.calls kj10  t382 _ A16.out).mono ?_); rintro e w17 ⟨rfl, hb⟩; replace BK379 := bb_ BK379 hb; replace HB := bs_ HB hb; (try clear hb); (try clear hb2); (try clear hk); (try clear hi))); try go_wp2_with (first | (go_at_call 33; (with_reducible refine (calamuslaw11_lives.calls kj10  t382 _ A16.out).mono ?_); rintro e w17 ⟨rfl, hb⟩; replace BK379 := bb_ BK379 hb; replace HB := bs_ HB hb; (try clear hb); (try clear hb2); (try clear hk); (try clear hi))))
      go_ret
      exact ⟨er_, hb_ HB⟩
     ·replace c15 := Bool.eq_false_iff.mpr c15
      subst c15
      have H1 : ((tree_Texts.f kj10 l0_0 a0_1 a1).bind fun bt383 => ((calamusref11_Texts.f kj10 l0_0 a0_1 a1).bind fun bt387 => ((calamusref11_Alike.f kj10 bt383.1 bt387.1).bind fun t391 => (if t391 = true then (if bt383.2 = bt387.2 then ((calamuslaw11_lives.f kj10).bind fun t392 => (some t392)) else (some false)) else (some false))))) = some r := by rw [if_neg (show ¬ (false = true) by decide)] at H; exact H
      clear H
      have H := H1
      clear H1
      replace H := Option.bind_eq_some_iff.mp H
      obtain ⟨⟨t383, t386⟩, A180, H⟩ := H
      replace H : ((calamusref11_Texts.f kj10 l0_0 a0_1 a1).bind fun bt387 => ((calamusref11_Alike.f kj10 t383 bt387.1).bind fun t391 => (if t391 = true then (if t386 = bt387.2 then ((calamuslaw11_lives.f kj10).bind fun t392 => (some t392)) else (some false)) else (some false)))) = some r := H
      have A18 := Aside0.mk A180
      clear A180
      replace H := Option.bind_eq_some_iff.mp H
      obtain ⟨⟨t387, t390⟩, A190, H⟩ := H
      replace H : ((calamusref11_Alike.f kj10 t383 t387).bind fun t391 => (if t391 = true then (if t386 = t390 then ((calamuslaw11_lives.f kj10).bind fun t392 => (some t392)) else (some false)) else (some false))) = some r := H
      have A19 := Aside0.mk A190
      clear A190
      replace H := Option.bind_eq_some_iff.mp H
      obtain ⟨t391, A200, H⟩ := H
      replace H : (if t391 = true then (if t386 = t390 then ((calamuslaw11_lives.f kj10).bind fun t392 => (some t392)) else (some false)) else (some false)) = some r := H
      have A20 := Aside0.mk A200
      clear A200
      by_cases c21 : t391 = true
      ·subst c21
       have H1 : (if t386 = t390 then ((calamuslaw11_lives.f kj10).bind fun t392 => (some t392)) else (some false)) = some r := by rw [if_pos rfl] at H; exact H
       clear H
       have H := H1
       clear H1
       by_cases c22 : t386 = t390
       ·rw [if_pos c22] at H
        have c22b0 : (t386 == t390) = true := beq_iff_eq.mpr c22
        have c22b1 : (t386 != t390) = false := bne_eq_false_iff_eq.mpr c22
        clear c22
        replace H := Option.bind_eq_some_iff.mp H
        obtain ⟨t392, A230, H⟩ := H
        replace H : (some t392) = some r := H
        have A23 := Aside0.mk A230
        clear A230
        obtain rfl := Option.some.inj H
        obtain ⟨hcz24_0, hcz24_1, hfz24_0, hfz24_1⟩ := bc2_ BK379
        go_wp2_with (first | (go_at_call 55; (with_reducible refine (tree_Texts.calls kj10 _ _ l0_0 a0_1 a1 t383 t386 _ ?side1 ?side2 A18.out).mono ?_); (case side1 => exact cw_ (Kd.C_below HR0_0.out HB.out)); (case side2 => exact HC0_0.out); rintro e w25 ⟨v384, rfl, ho0, hb⟩; have HO385 := Aside0.mk (Kd.R_lower ho0 (below_size (hb_ HB))); replace BK379 := bb_ BK379 hb; replace HB := bs_ HB hb; (try clear hb); (try clear hb2); (try clear hk); (try clear hi); (try clear ho0); obtain ⟨hcz26_0, hcz26_1, hfz26_0, hfz26_1⟩ := bc2_ BK379) | (go_at_call 56; (with_reducible refine (calamusref11_Texts.calls kj10 _ _ l0_0 a0_1 a1 t387 t390 _ ?side1 ?side2 A19.out).mono ?_); (case side1 => exact cw_ (Kd.C_below HR0_0.out HB.out)); (case side2 => exact HC0_0.out); rintro e w27 ⟨v388, rfl, ho0, hb⟩; have HO389 := Aside0.mk (Kd.R_lower (Kd.R_new' ho0 (Kd.R_lt (rw_ HO385.out))) (below_size (hb_ HB))); replace HO385 := Aside0.mk (Kd.R_elder' (rw_ HO385.out) (Kd.R_base ho0) hb); replace BK379 := bb_ BK379 hb; replace HB := bs_ HB hb; (try clear hb); (try clear hb2); (try clear hk); (try clear hi); (try clear ho0); obtain ⟨Ao28, co28, eo28⟩ := Kd.R_slice HO385.out; subst eo28; obtain ⟨Ao29, co29, eo29⟩ := Kd.R_slice HO389.out; subst eo29) | (go_at_call 57; (with_reducible refine (calamusref11_Alike.calls kj10 _ _ t383 _ _ t387 true _ ?side1 ?side2 ?side3 ?side4 A20.out).mono ?_); (case side1 => repeat (first | exact (Kd.R_reads' HO385.out).2.2 | (with_reducible refine Kd.C_alloc ?_ _) | (with_reducible refine Kd.C_drewN ?_ _) | (with_reducible refine Kd.C_drew ?_))); (case side2 => exact (Kd.R_reads' HO385.out).2.1); (case side3 => repeat (first | exact (Kd.R_reads' HO389.out).2.2 | (with_reducible refine Kd.C_alloc ?_ _) | (with_reducible refine Kd.C_drewN ?_ _) | (with_reducible refine Kd.C_drew ?_))); (case side4 => exact (Kd.R_reads' HO389.out).2.1); rintro e w' ⟨rfl, ⟨nd, rfl⟩⟩; (try first | exact ⟨rfl, _, World.drewN_drewN _ _ _⟩ | exact ⟨rfl, _, Eq.trans (World.drewN_drewN _ _ _) (congrArg (World.drewN _) (Nat.add_assoc _ _ _))⟩)) | (go_at_call 33; (with_reducible refine (calamuslaw11_lives.calls kj10  t392 _ A23.out).mono ?_); rintro e w30 ⟨rfl, hb⟩; replace HO385 := Aside0.mk (Kd.R_below (rw_ HO385.out) hb); replace HO389 := Aside0.mk (Kd.R_below (rw_ HO389.out) hb); replace BK379 := bb_ BK379 hb; replace HB := bs_ HB hb; (try clear hb); (try clear hb2); (try clear hk); (try clear hi)))
        repeat (go_quiet (first | (go_at_call 55; (with_reducible refine (tree_Texts.calls kj10 _ _ l0_0 a0_1 a1 t383 t386 _ ?side1 ?side2 A18.out).mono ?_); (case side1 => exact cw_ (Kd.C_below HR0_0.out HB.out)); (case side2 => exact HC0_0.out); rintro e w25 ⟨v384, rfl, ho0, hb⟩; have HO385 := Aside0.mk (Kd.R_lower ho0 (below_size (hb_ HB))); replace BK379 := bb_ BK379 hb; replace HB := bs_ HB hb; (try clear hb); (try clear hb2); (try clear hk); (try clear hi); (try clear ho0); obtain ⟨hcz26_0, hcz26_1, hfz26_0, hfz26_1⟩ := bc2_ BK379) | (go_at_call 56; (with_reducible refine (calamusref11_Texts.calls kj10 _ _ l0_0 a0_1 a1 t387 t390 _ ?side1 ?side2 A19.out).mono ?_); (case side1 => exact cw_ (Kd.C_below HR0_0.out HB.out)); (case side2 => exact HC0_0.out); rintro e w27 ⟨v388, rfl, ho0, hb⟩; have HO389 := Aside0.mk (Kd.R_lower (Kd.R_new' ho0 (Kd.R_lt (rw_ HO385.out))) (below_size (hb_ HB))); replace HO385 := Aside0.mk (Kd.R_elder' (rw_ HO385.out) (Kd.R_base ho0) hb); replace BK379 := bb_ BK379 hb; replace HB := bs_ HB hb; (try clear hb); (try clear hb2); (try clear hk); (try clear hi); (try clear ho0); obtain ⟨Ao28, co28, eo28⟩ := Kd.R_slice HO385.out; subst eo28; obtain ⟨Ao29, co29, eo29⟩ := Kd.R_slice HO389.out; subst eo29) | (go_at_call 57; (with_reducible refine (calamusref11_Alike.calls kj10 _ _ t383 _ _ t387 true _ ?side1 ?side2 ?side3 ?side4 A20.out).mono ?_); (case side1 => repeat (first | exact (Kd.R_reads' HO385.out).2.2 | (with_reducible refine Kd.C_alloc ?_ _) | (with_reducible refine Kd.C_drewN ?_ _) | (with_reducible refine Kd.C_drew ?_))); (case side2 => exact (Kd.R_reads' HO385.out).2.1); (case side3 => repeat (first | exact (Kd.R_reads' HO389.out).2.2 | (with_reducible refine Kd.C_alloc ?_ _) | (with_reducible refine Kd.C_drewN ?_ _) | (with_reducible refine Kd.C_drew ?_))); (case side4 => exact (Kd.R_reads' HO389.out).2.1); rintro e w' ⟨rfl, ⟨nd, rfl⟩⟩; (try first | exact ⟨rfl, _, World.drewN_drewN _ _ _⟩ | exact ⟨rfl, _, Eq.trans (World.drewN_drewN _ _ _) (congrArg (World.drewN _) (Nat.add_assoc _ _ _))⟩)) | (go_at_call 33; (with_reducible refine (calamuslaw11_lives.calls kj10  t392 _ A23.out).mono ?_); rintro e w30 ⟨rfl, hb⟩; replace HO385 := Aside0.mk (Kd.R_below (rw_ HO385.out) hb); replace HO389 := Aside0.mk (Kd.R_below (rw_ HO389.out) hb); replace BK379 := bb_ BK379 hb; replace HB := bs_ HB hb; (try clear hb); (try clear hb2); (try clear hk); (try clear hi))); try go_wp2_with (first | (go_at_call 55; (with_reducible refine (tree_Texts.calls kj10 _ _ l0_0 a0_1 a1 t383 t386 _ ?side1 ?side2 A18.out).mono ?_); (case side1 => exact cw_ (Kd.C_below HR0_0.out HB.out)); (case side2 => exact HC0_0.out); rintro e w25 ⟨v384, rfl, ho0, hb⟩; have HO385 := Aside0.mk (Kd.R_lower ho0 (below_size (hb_ HB))); replace BK379 := bb_ BK379 hb; replace HB := bs_ HB hb; (try clear hb); (try clear hb2); (try clear hk); (try clear hi); (try clear ho0); obtain ⟨hcz26_0, hcz26_1, hfz26_0, hfz26_1⟩ := bc2_ BK379) | (go_at_call 56; (with_reducible refine (calamusref11_Texts.calls kj10 _ _ l0_0 a0_1 a1 t387 t390 _ ?side1 ?side2 A19.out).mono ?_); (case side1 => exact cw_ (Kd.C_below HR0_0.out HB.out)); (case side2 => exact HC0_0.out); rintro e w27 ⟨v388, rfl, ho0, hb⟩; have HO389 := Aside0.mk (Kd.R_lower (Kd.R_new' ho0 (Kd.R_lt (rw_ HO385.out))) (below_size (hb_ HB))); replace HO385 := Aside0.mk (Kd.R_elder' (rw_ HO385.out) (Kd.R_base ho0) hb); replace BK379 := bb_ BK379 hb; replace HB := bs_ HB hb; (try clear hb); (try clear hb2); (try clear hk); (try clear hi); (try clear ho0); obtain ⟨Ao28, co28, eo28⟩ := Kd.R_slice HO385.out; subst eo28; obtain ⟨Ao29, co29, eo29⟩ := Kd.R_slice HO389.out; subst eo29) | (go_at_call 57; (with_reducible refine (calamusref11_Alike.calls kj10 _ _ t383 _ _ t387 true _ ?side1 ?side2 ?side3 ?side4 A20.out).mono ?_); (case side1 => repeat (first | exact (Kd.R_reads' HO385.out).2.2 | (with_reducible refine Kd.C_alloc ?_ _) | (with_reducible refine Kd.C_drewN ?_ _) | (with_reducible refine Kd.C_drew ?_))); (case side2 => exact (Kd.R_reads' HO385.out).2.1); (case side3 => repeat (first | exact (Kd.R_reads' HO389.out).2.2 | (with_reducible refine Kd.C_alloc ?_ _) | (with_reducible refine Kd.C_drewN ?_ _) | (with_reducible refine Kd.C_drew ?_))); (case side4 => exact (Kd.R_reads' HO389.out).2.1); rintro e w' ⟨rfl, ⟨nd, rfl⟩⟩; (try first | exact ⟨rfl, _, World.drewN_drewN _ _ _⟩ | exact ⟨rfl, _, Eq.trans (World.drewN_drewN _ _ _) (congrArg (World.drewN _) (Nat.add_assoc _ _ _))⟩)) | (go_at_call 33; (with_reducible refine (calamuslaw11_lives.calls kj10  t392 _ A23.out).mono ?_); rintro e w30 ⟨rfl, hb⟩; replace HO385 := Aside0.mk (Kd.R_below (rw_ HO385.out) hb); replace HO389 := Aside0.mk (Kd.R_below (rw_ HO389.out) hb); replace BK379 := bb_ BK379 hb; replace HB := bs_ HB hb; (try clear hb); (try clear hb2); (try clear hk); (try clear hi))))
        go_ret
        exact ⟨er_, hb_ HB⟩
       ·rw [if_neg c22] at H
        have c22b0 : (t386 == t390) = false := beq_eq_false_iff_ne.mpr c22
        have c22b1 : (t386 != t390) = true := bne_iff_ne.mpr c22
        exact nf_ H hr_
      ·replace c21 := Bool.eq_false_iff.mpr c21
       subst c21
       have H1 : (some false) = some r := by rw [if_neg (show ¬ (false = true) by decide)] at H; exact H
       clear H
       have H := H1
       clear H1
       exact nf_ H hr_
end Go.Proofs.Ytkiokimpblimcaa.PTreeTexts
