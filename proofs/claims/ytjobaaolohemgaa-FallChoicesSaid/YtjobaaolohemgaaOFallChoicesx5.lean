/- Of the law calamus/calamuslaw32.FallChoices: each function as a plain Lean function, with a proof that the call comes to it; the row. By wip/tpl/own_print.py. Conditions: none but the row's own. -/
import Derived.Test.YtjobaaolohemgaaOFallChoicesx0
import Derived.Test.YtjobaaolohemgaaOFallChoicesx1
import Derived.Test.YtjobaaolohemgaaOFallChoicesx2
import Derived.Test.YtjobaaolohemgaaOFallChoicesx3
import Derived.Test.YtjobaaolohemgaaOFallChoicesx4
namespace Go.Proofs.Ytjobaaolohemgaa.PFallChoices
open Go.RowKit Go.Proofs.YtjobaaolohemgaaW.PrintWords Go.Proofs.YtjobaaolohemgaaW.PrintLast Go.Proofs.YtjobaaolohemgaaW.PrintMore
attribute [local go_sem] max2_int min2_int max_two min_two max_three min_three max_four min_four   -- for this text's walks alone
set_option linter.unusedVariables false
set_option linter.unusedSimpArgs false

/-! ### calamuslaw32_FallChoices: function 12 -/
def calamuslaw32_FallChoices.j0 : Nat → Int → Bool → Int → List Int → Int → List Int → Option (Bool)
 | 0, _, _, _, _, _, _ => none
 | k + 1, x2, x17, x184000, x184001, x185000, x185001 => if x17 = true then ((calamuslaw32_lives.f).bind fun t185 => (some t185)) else ((fall_Round.f x184000 x184001 x185000 x185001).bind fun bt187 => ((calamusref32_Round.f k x184000 x184001 x185000 x185001).bind fun bt191 => ((calamuslaw32_same.f k bt187.1 bt187.2 bt191.1 bt191.2).bind fun t195 => (if t195 = true then ((fall_Count.f x184000 x184001).bind fun t196 => ((calamusref32_Count.f k x184000 x184001).bind fun t197 => (if t196 = t197 then ((fall_Nth.f x184000 x184001 x2).bind fun bt198 => ((calamusref32_Nth.f k x184000 x184001 x2).bind fun bt202 => ((calamuslaw32_same.f k bt198.1 bt198.2 bt202.1 bt202.2).bind fun t206 => (if t206 = true then ((calamuslaw32_lives.f).bind fun t207 => (some t207)) else (some false))))) else (some false)))) else (some false)))))
def calamuslaw32_FallChoices.f (k : Nat) (a0_0 : Int) (l0_1 : List Int) (a1_0 : Int) (l1_1 : List Int) (a2 : Int) : Option (Bool) := if (l0_1.length : Int) > 100 then (calamuslaw32_FallChoices.j0 k a2 true a0_0 l0_1 a1_0 l1_1) else (calamuslaw32_FallChoices.j0 k a2 (decide ((l1_1.length : Int) > 200)) a0_0 l0_1 a1_0 l1_1)
theorem calamuslaw32_FallChoices.mono_l : ∀ k, (∀ y0 y1 y2 y3 y4 y5, LeO (calamuslaw32_FallChoices.j0 k y0 y1 y2 y3 y4 y5) (calamuslaw32_FallChoices.j0 (k + 1) y0 y1 y2 y3 y4 y5))
 | 0 => fun _ _ _ _ _ _ r h => by simp [calamuslaw32_FallChoices.j0] at h
 | k + 1 => by
  have ih0 := calamuslaw32_FallChoices.mono_l k
  ·intro y0 y1 y2 y3 y4 y5
   unfold calamuslaw32_FallChoices.j0
   repeat' first
   | (with_reducible exact ih0 _ _ _ _ _ _)
   | (with_reducible exact calamuslaw32_same.mono _ _ _ _ _)
   | (with_reducible exact calamusref32_Count.mono _ _ _)
   | (with_reducible exact calamusref32_Nth.mono _ _ _ _)
   | (with_reducible exact calamusref32_Round.mono _ _ _ _ _)
   | (with_reducible exact LeO.refl _)
   | (with_reducible exact LeO.none _)
   | (with_reducible refine LeO.ite ?_ ?_)
   | (with_reducible refine LeO.bind ?_ (fun _ => ?_))
   | exact ih0 _ _ _ _ _ _
   | exact calamuslaw32_same.mono _ _ _ _ _
   | exact calamusref32_Count.mono _ _ _
   | exact calamusref32_Nth.mono _ _ _ _
   | exact calamusref32_Round.mono _ _ _ _ _
   | exact LeO.none _
   | refine LeO.ite ?_ ?_
   | refine LeO.bind ?_ (fun _ => ?_)
theorem calamuslaw32_FallChoices.mono : ∀ a0 a1 a2 a3 a4 k, LeO (calamuslaw32_FallChoices.f k a0 a1 a2 a3 a4) (calamuslaw32_FallChoices.f (k + 1) a0 a1 a2 a3 a4) := by
 intro a0 a1 a2 a3 a4 k
 have ih0 := calamuslaw32_FallChoices.mono_l k
 unfold calamuslaw32_FallChoices.f
 repeat' first
   | (with_reducible exact ih0 _ _ _ _ _ _)
   | (with_reducible exact calamuslaw32_same.mono _ _ _ _ _)
   | (with_reducible exact calamusref32_Count.mono _ _ _)
   | (with_reducible exact calamusref32_Nth.mono _ _ _ _)
   | (with_reducible exact calamusref32_Round.mono _ _ _ _ _)
   | (with_reducible exact LeO.refl _)
   | (with_reducible exact LeO.none _)
   | (with_reducible refine LeO.ite ?_ ?_)
   | (with_reducible refine LeO.bind ?_ (fun _ => ?_))
   | exact ih0 _ _ _ _ _ _
   | exact calamuslaw32_same.mono _ _ _ _ _
   | exact calamusref32_Count.mono _ _ _
   | exact calamusref32_Nth.mono _ _ _ _
   | exact calamusref32_Round.mono _ _ _ _ _
   | exact LeO.none _
   | refine LeO.ite ?_ ?_
   | refine LeO.bind ?_ (fun _ => ?_)
def calamuslaw32_FallChoices.T4 : Bool × List (List Nat × List Nat) := (true, [([], []), ([], []), ([0, 1], [0, 1]), ([], []), ([], []), ([3, 4, 2], [3, 4]), ([2, 5, 5], [2, 5]), ([6, 6], [6]), ([7], [7]), ([8, 7, 7], [7, 8]), ([7], [7]), ([10, 9, 7], [7, 10]), ([9, 11, 7], [7, 9, 11]), ([7, 12], [7, 12]), ([13, 11], [13]), ([14], [14]), ([14], [14]), ([15, 16, 14, 14], [14, 15, 16]), ([14], [14]), ([14], [14]), ([18, 19, 17, 14], [14, 18, 19]), ([17, 20, 20, 14], [14, 17, 20]), ([14, 21], [14, 21]), ([22, 21], [22]), ([23, 23], [23]), ([23, 24], [23, 24]), ([25, 24, 0, 1, 2, 3, 4, 5, 6, 7, 8, 9, 10, 11, 12, 13, 14, 15, 16, 17, 18, 19, 20, 21, 22, 23, 24, 25], [25])])
def calamuslaw32_FallChoices.B4 : List Nat := [0, 0, 3, 0, 0, 31, 63, 127, 255, 511, 255, 2047, 4095, 8191, 16383, 32767, 32767, 131071, 32767, 32767, 1048575, 2097151, 4194303, 8388607, 16777215, 33554431, 67108863]
theorem calamuslaw32_FallChoices.tab4 : rtab .any (opsOf Try.f12 4) = calamuslaw32_FallChoices.T4 := by kernel_rfl
theorem calamuslaw32_FallChoices.bits4 : waitsOk calamuslaw32_FallChoices.T4.2 calamuslaw32_FallChoices.B4 = true := by kernel_rfl
set_option maxHeartbeats 8000000 in
set_option maxRecDepth 100000 in
theorem calamuslaw32_FallChoices.calls (k : Nat) (a0_0 : Int) (A0_1 : Option Addr) (c0_1 : Nat) (l0_1 : List Int) (a1_0 : Int) (A1_1 : Option Addr) (c1_1 : Nat) (l1_1 : List Int) (a2 : Int) (r : Bool) (w : World) (hr0_1 : Kd.C (Kd.int .i64) w A0_1 l0_1.length l0_1) (hc0_1 : l0_1.length ≤ c0_1) (hr1_1 : Kd.C (Kd.int .i64) w A1_1 l1_1.length l1_1) (hc1_1 : l1_1.length ≤ c1_1) (h : calamuslaw32_FallChoices.f k a0_0 l0_1 a1_0 l1_1 a2 = some r) (hr_ : r = true := by rfl) :
  Calls Try.prog 12 #[.agg #[.int .i64 a0_0, .slice A0_1 l0_1.length c0_1], .agg #[.int .i64 a1_0, .slice A1_1 l1_1.length c1_1], .int .i64 a2] w fun e w' => e = .returned (.bool r) ∧ Below w.heap.size w w' := by
 have hu57 := Try.underlying57
 have hu58 := Try.underlying58
 have HR0_1 := Aside0.mk hr0_1
 have HC0_1 := Aside0.mk hc0_1
 clear hr0_1 hc0_1
 have HR1_1 := Aside0.mk hr1_1
 have HC1_1 := Aside0.mk hc1_1
 clear hr1_1 hc1_1
 have HB := Aside0.mk (Below.refl w.heap.size w)
 have H : (if (l0_1.length : Int) > 100 then (calamuslaw32_FallChoices.j0 k a2 true a0_0 l0_1 a1_0 l1_1) else (calamuslaw32_FallChoices.j0 k a2 (decide ((l1_1.length : Int) > 200)) a0_0 l0_1 a1_0 l1_1)) = some r := h
 clear h
 have HC4 := Aside0.mk H
 clear H
 go_enter Try.func12, Try.ntmps12
 go_upto_region 1 with (first | ((with_reducible refine gate_dst (N := 3) rfl ?_); (try (refine gate_guard (by rfl) ?_; dsimp only)); refine be_ (N := 3) (cs := #[.int .i64 a0_0, .slice A0_1 l0_1.length c0_1]) (t := 57) (h := ?_); intro gb183 hg w5 hbox hb; have BK183 := Aside0.mk (hbox); have GW183 := gw_ HB hg; have GE183 := gw_ HB hg; replace HB := bs_ HB hb; clear hb hbox hg) | ((with_reducible refine gate_dst (N := 4) rfl ?_); (try (refine gate_guard (by rfl) ?_; dsimp only)); refine be_ (N := 4) (cs := #[.int .i64 a1_0, .slice A1_1 l1_1.length c1_1]) (t := 57) (h := ?_); intro gb184 hg w6 hbox hb; have BK184 := Aside0.mk (hbox); have GW184 := gw_ HB hg; have GE184 := gw_ HB hg; have NB183_184 := ne_ BK183 hg; have NB184_183 := en_ BK183 hg; replace BK183 := bb_ BK183 hb; replace HB := bs_ HB hb; clear hb hbox hg))
 (try simp only [Act.put, List.setIfInBounds_toArray, List.set_cons_zero, List.set_cons_succ])
 go_cut [17] (fun v17 wc => ∃ (kq : Nat) (x17_3 : Bool), v17 = .bool x17_3 ∧ Aside0 (calamuslaw32_FallChoices.j0 kq a2 x17_3 a0_0 l0_1 a1_0 l1_1 = some r) ∧ Aside0 (kq ≤ k) ∧ Aside0 (wc.heap[gb183]? = some (.cells #[.int .i64 a0_0, (.slice A0_1 l0_1.length c0_1)] 57 (0, 0))) ∧ Aside0 (wc.heap[gb184]? = some (.cells #[.int .i64 a1_0, (.slice A1_1 l1_1.length c1_1)] 57 (0, 0))) ∧ Aside0 (Below w.heap.size w wc))
 case first =>
  have H := HC4.out
  clear HC4
  by_cases c7 : (l0_1.length : Int) > 100
  ·rw [if_pos c7] at H
   have c7b0 : decide (100 < (l0_1.length : Int)) = true := decide_eq_true c7
   have c7b1 : decide (100 < l0_1.length) = true := decide_eq_true (by omega)
   clear c7
   (first | rw [c7b0] | (simp only [i64_w, i32_w]; rw [c7b0]) | skip)
   have H' := Aside0.mk H
   clear H
   have hnb8 := NB183_184.out
   have hnc8 := NB184_183.out
   obtain ⟨hcz9_0, hcz9_1, hfz9_0, hfz9_1⟩ := bc2_ BK183
   go_wp2
   go_meet
   case rel => exact ⟨_, (true), es_, H', ⟨by first | omega | exact Nat.le_refl _⟩, ⟨bw_ BK183.out⟩, ⟨bw_ BK184.out⟩, ⟨hb_ HB⟩⟩
  ·rw [if_neg c7] at H
   have c7b0 : decide (100 < (l0_1.length : Int)) = false := decide_eq_false c7
   have c7b1 : decide (100 < l0_1.length) = false := decide_eq_false (by omega)
   clear c7
   (first | rw [c7b0] | (simp only [i64_w, i32_w]; rw [c7b0]) | skip)
   have H' := Aside0.mk H
   clear H
   have hnb10 := NB183_184.out
   have hnc10 := NB184_183.out
   obtain ⟨hcz11_0, hcz11_1, hfz11_0, hfz11_1⟩ := bc2_ BK183
   obtain ⟨hcz12_0, hcz12_1, hfz12_0, hfz12_1⟩ := bc2_ BK184
   go_wp2
   go_meet
   case rel => exact ⟨_, (decide ((l1_1.length : Int) > 200)), es_, H', ⟨by first | omega | exact Nat.le_refl _⟩, ⟨bw_ BK183.out⟩, ⟨bw_ BK184.out⟩, ⟨hb_ HB⟩⟩
 case rest =>
  clear HC4
  obtain ⟨kq, x17_3, rfl, HA, HJ3, BK183, BK184, HB⟩ := hcut
  cases kq with
  | zero => exact absurd HA.out (by simp [calamuslaw32_FallChoices.j0])
  | succ kj3 =>
   have H := HA.out
   clear HA
   simp only [calamuslaw32_FallChoices.j0] at H
   by_cases c13 : x17_3 = true
   ·subst c13
    have H1 : ((calamuslaw32_lives.f).bind fun t185 => (some t185)) = some r := by rw [if_pos rfl] at H; exact H
    clear H
    have H := H1
    clear H1
    replace H := Option.bind_eq_some_iff.mp H
    obtain ⟨t185, A140, H⟩ := H
    replace H : (some t185) = some r := H
    have A14 := Aside0.mk A140
    clear A140
    obtain rfl := Option.some.inj H
    go_wp2_with (first | ((with_reducible refine gate_callee (f := 50) rfl ?_); refine ge_ (some 18) rfl rfl Try.func50 (by kernel_rfl) rfl #[] rfl (h := ?_); (with_reducible refine (calamuslaw32_lives.calls  t185 _ A14.out).mono ?_); rintro e w15 ⟨rfl, hb⟩; refine ⟨_, rfl, ?_⟩; replace BK183 := bb_ BK183 hb; replace BK184 := bb_ BK184 hb; replace HB := bs_ HB hb; (try clear hb); (try clear hb2); (try clear hk); (try clear hi)))
    go_ret
    exact ⟨er_, hb_ HB⟩
   ·replace c13 := Bool.eq_false_iff.mpr c13
    subst c13
    have H1 : ((fall_Round.f a0_0 l0_1 a1_0 l1_1).bind fun bt187 => ((calamusref32_Round.f kj3 a0_0 l0_1 a1_0 l1_1).bind fun bt191 => ((calamuslaw32_same.f kj3 bt187.1 bt187.2 bt191.1 bt191.2).bind fun t195 => (if t195 = true then ((fall_Count.f a0_0 l0_1).bind fun t196 => ((calamusref32_Count.f kj3 a0_0 l0_1).bind fun t197 => (if t196 = t197 then ((fall_Nth.f a0_0 l0_1 a2).bind fun bt198 => ((calamusref32_Nth.f kj3 a0_0 l0_1 a2).bind fun bt202 => ((calamuslaw32_same.f kj3 bt198.1 bt198.2 bt202.1 bt202.2).bind fun t206 => (if t206 = true then ((calamuslaw32_lives.f).bind fun t207 => (some t207)) else (some false))))) else (some false)))) else (some false))))) = some r := by rw [if_neg (show ¬ (false = true) by decide)] at H; exact H
    clear H
    have H := H1
    clear H1
    replace H := Option.bind_eq_some_iff.mp H
    obtain ⟨⟨t187, t188⟩, A160, H⟩ := H
    replace H : ((calamusref32_Round.f kj3 a0_0 l0_1 a1_0 l1_1).bind fun bt191 => ((calamuslaw32_same.f kj3 t187 t188 bt191.1 bt191.2).bind fun t195 => (if t195 = true then ((fall_Count.f a0_0 l0_1).bind fun t196 => ((calamusref32_Count.f kj3 a0_0 l0_1).bind fun t197 => (if t196 = t197 then ((fall_Nth.f a0_0 l0_1 a2).bind fun bt198 => ((calamusref32_Nth.f kj3 a0_0 l0_1 a2).bind fun bt202 => ((calamuslaw32_same.f kj3 bt198.1 bt198.2 bt202.1 bt202.2).bind fun t206 => (if t206 = true then ((calamuslaw32_lives.f).bind fun t207 => (some t207)) else (some false))))) else (some false)))) else (some false)))) = some r := H
    have A16 := Aside0.mk A160
    clear A160
    replace H := Option.bind_eq_some_iff.mp H
    obtain ⟨⟨t191, t192⟩, A170, H⟩ := H
    replace H : ((calamuslaw32_same.f kj3 t187 t188 t191 t192).bind fun t195 => (if t195 = true then ((fall_Count.f a0_0 l0_1).bind fun t196 => ((calamusref32_Count.f kj3 a0_0 l0_1).bind fun t197 => (if t196 = t197 then ((fall_Nth.f a0_0 l0_1 a2).bind fun bt198 => ((calamusref32_Nth.f kj3 a0_0 l0_1 a2).bind fun bt202 => ((calamuslaw32_same.f kj3 bt198.1 bt198.2 bt202.1 bt202.2).bind fun t206 => (if t206 = true then ((calamuslaw32_lives.f).bind fun t207 => (some t207)) else (some false))))) else (some false)))) else (some false))) = some r := H
    have A17 := Aside0.mk A170
    clear A170
    replace H := Option.bind_eq_some_iff.mp H
    obtain ⟨t195, A180, H⟩ := H
    replace H : (if t195 = true then ((fall_Count.f a0_0 l0_1).bind fun t196 => ((calamusref32_Count.f kj3 a0_0 l0_1).bind fun t197 => (if t196 = t197 then ((fall_Nth.f a0_0 l0_1 a2).bind fun bt198 => ((calamusref32_Nth.f kj3 a0_0 l0_1 a2).bind fun bt202 => ((calamuslaw32_same.f kj3 bt198.1 bt198.2 bt202.1 bt202.2).bind fun t206 => (if t206 = true then ((calamuslaw32_lives.f).bind fun t207 => (some t207)) else (some false))))) else (some false)))) else (some false)) = some r := H
    have A18 := Aside0.mk A180
    clear A180
    by_cases c19 : t195 = true
    ·subst c19
     have H1 : ((fall_Count.f a0_0 l0_1).bind fun t196 => ((calamusref32_Count.f kj3 a0_0 l0_1).bind fun t197 => (if t196 = t197 then ((fall_Nth.f a0_0 l0_1 a2).bind fun bt198 => ((calamusref32_Nth.f kj3 a0_0 l0_1 a2).bind fun bt202 => ((calamuslaw32_same.f kj3 bt198.1 bt198.2 bt202.1 bt202.2).bind fun t206 => (if t206 = true then ((calamuslaw32_lives.f).bind fun t207 => (some t207)) else (some false))))) else (some false)))) = some r := by rw [if_pos rfl] at H; exact H
     clear H
     have H := H1
     clear H1
     replace H := Option.bind_eq_some_iff.mp H
     obtain ⟨t196, A200, H⟩ := H
     replace H : ((calamusref32_Count.f kj3 a0_0 l0_1).bind fun t197 => (if t196 = t197 then ((fall_Nth.f a0_0 l0_1 a2).bind fun bt198 => ((calamusref32_Nth.f kj3 a0_0 l0_1 a2).bind fun bt202 => ((calamuslaw32_same.f kj3 bt198.1 bt198.2 bt202.1 bt202.2).bind fun t206 => (if t206 = true then ((calamuslaw32_lives.f).bind fun t207 => (some t207)) else (some false))))) else (some false))) = some r := H
     have A20 := Aside0.mk A200
     clear A200
     replace H := Option.bind_eq_some_iff.mp H
     obtain ⟨t197, A210, H⟩ := H
     replace H : (if t196 = t197 then ((fall_Nth.f a0_0 l0_1 a2).bind fun bt198 => ((calamusref32_Nth.f kj3 a0_0 l0_1 a2).bind fun bt202 => ((calamuslaw32_same.f kj3 bt198.1 bt198.2 bt202.1 bt202.2).bind fun t206 => (if t206 = true then ((calamuslaw32_lives.f).bind fun t207 => (some t207)) else (some false))))) else (some false)) = some r := H
     have A21 := Aside0.mk A210
     clear A210
     by_cases c22 : t196 = t197
     ·rw [if_pos c22] at H
      have c22b0 : (t196 == t197) = true := beq_iff_eq.mpr c22
      have c22b1 : (t196 != t197) = false := bne_eq_false_iff_eq.mpr c22
      clear c22
      replace H := Option.bind_eq_some_iff.mp H
      obtain ⟨⟨t198, t199⟩, A230, H⟩ := H
      replace H : ((calamusref32_Nth.f kj3 a0_0 l0_1 a2).bind fun bt202 => ((calamuslaw32_same.f kj3 t198 t199 bt202.1 bt202.2).bind fun t206 => (if t206 = true then ((calamuslaw32_lives.f).bind fun t207 => (some t207)) else (some false)))) = some r := H
      have A23 := Aside0.mk A230
      clear A230
      replace H := Option.bind_eq_some_iff.mp H
      obtain ⟨⟨t202, t203⟩, A240, H⟩ := H
      replace H : ((calamuslaw32_same.f kj3 t198 t199 t202 t203).bind fun t206 => (if t206 = true then ((calamuslaw32_lives.f).bind fun t207 => (some t207)) else (some false))) = some r := H
      have A24 := Aside0.mk A240
      clear A240
      replace H := Option.bind_eq_some_iff.mp H
      obtain ⟨t206, A250, H⟩ := H
      replace H : (if t206 = true then ((calamuslaw32_lives.f).bind fun t207 => (some t207)) else (some false)) = some r := H
      have A25 := Aside0.mk A250
      clear A250
      by_cases c26 : t206 = true
      ·subst c26
       have H1 : ((calamuslaw32_lives.f).bind fun t207 => (some t207)) = some r := by rw [if_pos rfl] at H; exact H
       clear H
       have H := H1
       clear H1
       replace H := Option.bind_eq_some_iff.mp H
       obtain ⟨t207, A270, H⟩ := H
       replace H : (some t207) = some r := H
       have A27 := Aside0.mk A270
       clear A270
       obtain rfl := Option.some.inj H
       have hnb28 := NB183_184.out
       have hnc28 := NB184_183.out
       obtain ⟨hcz29_0, hcz29_1, hfz29_0, hfz29_1⟩ := bc2_ BK183
       try go_wp2_with (first | ((with_reducible refine gate_dst (N := 7) rfl ?_); (try (refine gate_guard (by rfl) ?_; dsimp only)); refine be_ (N := 7) (cs := #[.int .i64 0, .slice none 0 0]) (t := 58) (h := ?_); intro gb186 hg w30 hbox hb; have BK186 := Aside0.mk (hbox); have GW186 := gw_ HB hg; have GE186 := gw_ HB hg; have NB183_186 := ne_ BK183 hg; have NB186_183 := en_ BK183 hg; have NB184_186 := ne_ BK184 hg; have NB186_184 := en_ BK184 hg; replace BK183 := bb_ BK183 hb; replace BK184 := bb_ BK184 hb; replace HB := bs_ HB hb; clear hb hbox hg; have hnb31 := NB186_183.out; have hnc31 := NB183_186.out; have hnb32 := NB186_184.out; have hnc32 := NB184_186.out; obtain ⟨hcz33_0, hcz33_1, hfz33_0, hfz33_1⟩ := bc2_ BK186))
       obtain ⟨w34, hW_⟩ : ∃ x, x = ((w30.setCell ⟨gb186, 0, none⟩ (.int .i64 a0_0)).setCell ⟨gb186, 1, none⟩ (.slice A0_1 l0_1.length c0_1)) := ⟨_, rfl⟩
       have n0_ : Aside0 (w34.heap[gb183]? = some (.cells #[.int .i64 a0_0, .slice A0_1 l0_1.length c0_1] 57 (0, 0))) := ⟨by rw [hW_]; exact bp_ BK183.out⟩
       have n1_ : Aside0 (w34.heap[gb184]? = some (.cells #[.int .i64 a1_0, .slice A1_1 l1_1.length c1_1] 57 (0, 0))) := ⟨by rw [hW_]; exact bp_ BK184.out⟩
       have n2_ : Aside0 (w34.heap[gb186]? = some (.cells #[.int .i64 a0_0, .slice A0_1 l0_1.length c0_1] 58 (0, 0))) := ⟨by rw [hW_]; exact bp_ BK186.out⟩
       have n3_ : Aside0 (Below w.heap.size w w34) := ⟨by rw [hW_]; exact hb_ HB⟩
       (try clear BK183)
       (try clear BK184)
       (try clear BK186)
       (try clear HB)
       rw [← hW_]; clear hW_
       have BK183 := n0_
       have BK184 := n1_
       have BK186 := n2_
       have HB := n3_
       clear n0_ n1_ n2_ n3_
       have n0_ := Aside0.mk (blk_drew BK183.out)
       have n1_ := Aside0.mk (blk_drew BK184.out)
       have n2_ := Aside0.mk (blk_drew BK186.out)
       have n3_ := Aside0.mk (below_drew1 HB.out)
       clear BK183
       clear BK184
       clear BK186
       clear HB
       have BK183 := n0_
       have BK184 := n1_
       have BK186 := n2_
       have HB := n3_
       clear n0_ n1_ n2_ n3_
       refine start_ (n := 27) (S := fun w' => w'.cell? ⟨gb186, 0, none⟩ = some (.int .i64 a0_0) ∧ w'.cell? ⟨gb186, 1, none⟩ = some (.slice A0_1 l0_1.length c0_1) ∧ w'.cell? ⟨gb184, 0, none⟩ = some (.int .i64 a1_0) ∧ w'.cell? ⟨gb184, 1, none⟩ = some (.slice A1_1 l1_1.length c1_1) ∧ w'.cell? ⟨gb183, 0, none⟩ = some (.int .i64 a0_0) ∧ w'.cell? ⟨gb183, 1, none⟩ = some (.slice A0_1 l0_1.length c0_1)) (ds := []) #[false, false, false, false, false, false, false, false, false, false, false, false, false, false, false, false, false, false, false, false, false, false, false, false, false, false, false] (by kernel_rfl) rfl rfl ⟨(blk_cell BK186.out 0).trans rfl, (blk_cell BK186.out 1).trans rfl, (blk_cell BK184.out 0).trans rfl, (blk_cell BK184.out 1).trans rfl, (blk_cell BK183.out 0).trans rfl, (blk_cell BK183.out 1).trans rfl⟩ (fun hHeld => ?_); refine with_tabW calamuslaw32_FallChoices.tab4 calamuslaw32_FallChoices.bits4 (fun HT_ HW_ => ?_)
       generalize w34.drew = w35 at BK183 BK184 BK186 HB hHeld ⊢
       refine take_ (i := 0) (N := some 20) (v := ?_) (a' := ?_) #[true, false, false, false, false, false, false, false, false, false, false, false, false, false, false, false, false, false, false, false, false, false, false, false, false, false, false] rfl rfl (take_ofW HT_.out HW_.out (by kernel_rfl)) (fun _ _ _ h => h) (Or.inl ⟨by rfl, ?_⟩) hHeld ?_ ?_
       rotate_left
       ·rintro w' ⟨s0, s1, s2, s3, s4, s5⟩
        go_simp
        with_reducible rfl
       rotate_left
       ·simp only [Act.put, List.setIfInBounds_toArray, List.set_cons_zero, List.set_cons_succ, i64_w, i32_w]
        rfl
       refine take_ (i := 1) (N := some 21) (v := ?_) (a' := ?_) #[true, true, false, false, false, false, false, false, false, false, false, false, false, false, false, false, false, false, false, false, false, false, false, false, false, false, false] rfl rfl (take_ofW HT_.out HW_.out (by kernel_rfl)) (fun _ _ _ h => h) (Or.inl ⟨by rfl, ?_⟩) hHeld ?_ ?_
       rotate_left
       ·rintro w' ⟨s0, s1, s2, s3, s4, s5⟩
        go_simp
        with_reducible rfl
       rotate_left
       ·simp only [Act.put, List.setIfInBounds_toArray, List.set_cons_zero, List.set_cons_succ, i64_w, i32_w]
        rfl
       refine take_ (i := 3) (N := some 23) (v := ?_) (a' := ?_) #[true, true, false, true, false, false, false, false, false, false, false, false, false, false, false, false, false, false, false, false, false, false, false, false, false, false, false] rfl rfl (take_ofW HT_.out HW_.out (by kernel_rfl)) (fun _ _ _ h => h) (Or.inl ⟨by rfl, ?_⟩) hHeld ?_ ?_
       rotate_left
       ·rintro w' ⟨s0, s1, s2, s3, s4, s5⟩
        go_simp
        with_reducible rfl
       rotate_left
       ·simp only [Act.put, List.setIfInBounds_toArray, List.set_cons_zero, List.set_cons_succ, i64_w, i32_w]
        rfl
       refine take_ (i := 4) (N := some 24) (v := ?_) (a' := ?_) #[true, true, false, true, true, false, false, false, false, false, false, false, false, false, false, false, false, false, false, false, false, false, false, false, false, false, false] rfl rfl (take_ofW HT_.out HW_.out (by kernel_rfl)) (fun _ _ _ h => h) (Or.inl ⟨by rfl, ?_⟩) hHeld ?_ ?_
       rotate_left
       ·rintro w' ⟨s0, s1, s2, s3, s4, s5⟩
        go_simp
        with_reducible rfl
       rotate_left
       ·simp only [Act.put, List.setIfInBounds_toArray, List.set_cons_zero, List.set_cons_succ, i64_w, i32_w]
        rfl
       refine one_ (i := 2) (N := some 22) #[true, true, true, true, true, false, false, false, false, false, false, false, false, false, false, false, false, false, false, false, false, false, false, false, false, false, false] rfl rfl (one_of HT_.out (by kernel_rfl)) (by decide) (fun K hK => ?_)
       refine goes_ Try.func52 (by kernel_rfl) rfl #[.agg #[.int .i64 a0_0, .slice A0_1 l0_1.length c0_1], .agg #[.int .i64 a1_0, .slice A1_1 l1_1.length c1_1]] (by rfl) rfl rfl (by (try simp only [List.map_toArray, List.map_cons, List.map_nil]); first | done | rfl | (simp only [List.length_drop, List.length_take]; rfl)) ?_
       with_reducible refine (fall_Round.calls a0_0 _ _ l0_1 a1_0 _ _ l1_1 t187 t188 _ ?side1 ?side2 ?side3 ?side4 A16.out).mono ?_
       (case side1 => exact cw_ (Kd.C_below HR0_1.out HB.out))
       (case side2 => exact HC0_1.out)
       (case side3 => exact cw_ (Kd.C_below HR1_1.out HB.out))
       (case side4 => exact HC1_1.out)
       rintro e w36 ⟨v189, rfl, ho0, hb⟩
       refine ⟨_, rfl, ?_⟩
       have n0_ := Aside0.mk (Kd.R_lower ho0 (below_size (hb_ HB)))
       have n1_ := bb_ BK183 hb
       have n2_ := bb_ BK184 hb
       have n3_ := bb_ BK186 hb
       have n4_ := bs_ HB hb
       clear BK183
       clear BK184
       clear BK186
       clear HB
       have HO190 := n0_
       have BK183 := n1_
       have BK184 := n2_
       have BK186 := n3_
       have HB := n4_
       clear n0_ n1_ n2_ n3_ n4_
       (try clear hb)
       (try clear hb2)
       (try clear hk)
       (try clear hi)
       (try clear ho0)
       refine hK.out _ _ ⟨(blk_cell BK186.out 0).trans rfl, (blk_cell BK186.out 1).trans rfl, (blk_cell BK184.out 0).trans rfl, (blk_cell BK184.out 1).trans rfl, (blk_cell BK183.out 0).trans rfl, (blk_cell BK183.out 1).trans rfl⟩ (fun hHeld => ?_)
       clear hK K
       refine norm_ (a' := ?_) ?_ ?_
       rotate_left
       ·show Act.put _ (some 22) _ = _
        simp only [Act.put, List.setIfInBounds_toArray, List.set_cons_zero, List.set_cons_succ, i64_w, i32_w]
        rfl
       refine one_ (i := 5) (N := some 25) #[true, true, true, true, true, true, false, false, false, false, false, false, false, false, false, false, false, false, false, false, false, false, false, false, false, false, false] rfl rfl (one_of HT_.out (by kernel_rfl)) (by decide) (fun K hK => ?_)
       refine goes_ Try.func53 (by kernel_rfl) rfl #[.agg #[.int .i64 a0_0, .slice A0_1 l0_1.length c0_1], .agg #[.int .i64 a1_0, .slice A1_1 l1_1.length c1_1]] (by rfl) rfl rfl (by (try simp only [List.map_toArray, List.map_cons, List.map_nil]); first | done | rfl | (simp only [List.length_drop, List.length_take]; rfl)) ?_
       with_reducible refine (calamusref32_Round.calls kj3 a0_0 _ _ l0_1 a1_0 _ _ l1_1 t191 t192 _ ?side1 ?side2 ?side3 ?side4 A17.out).mono ?_
       (case side1 => exact cw_ (Kd.C_below HR0_1.out HB.out))
       (case side2 => exact HC0_1.out)
       (case side3 => exact cw_ (Kd.C_below HR1_1.out HB.out))
       (case side4 => exact HC1_1.out)
       rintro e w37 ⟨v193, rfl, ho0, hb⟩
       refine ⟨_, rfl, ?_⟩
       have n0_ := Aside0.mk (Kd.R_below (rw_ HO190.out) hb)
       have n1_ := Aside0.mk (Kd.V_lower (Kd.V_mono (ok' := fun k_ => some k_ ≠ (v189 : Value).ownBlock ∧ k_ ≠ gb183 ∧ k_ ≠ gb184 ∧ k_ ≠ gb186) ho0 (fun k_ hk_ => ⟨(Kd.fresh' (Kd.R_lt (rw_ HO190.out)) k_ hk_), (Kd.freshB (g := gb183) (o := .cells #[.int .i64 a0_0, .slice A0_1 l0_1.length c0_1] 57 (0, 0)) (bw_ BK183.out) k_ hk_), (Kd.freshB (g := gb184) (o := .cells #[.int .i64 a1_0, .slice A1_1 l1_1.length c1_1] 57 (0, 0)) (bw_ BK184.out) k_ hk_), (Kd.freshB (g := gb186) (o := .cells #[.int .i64 a0_0, .slice A0_1 l0_1.length c0_1] 58 (0, 0)) (bw_ BK186.out) k_ hk_)⟩)) (below_size (hb_ HB)))
       have n2_ := bb_ BK183 hb
       have n3_ := bb_ BK184 hb
       have n4_ := bb_ BK186 hb
       have n5_ := bs_ HB hb
       clear HO190
       clear BK183
       clear BK184
       clear BK186
       clear HB
       have HO190 := n0_
       have HO194 := n1_
       have BK183 := n2_
       have BK184 := n3_
       have BK186 := n4_
       have HB := n5_
       clear n0_ n1_ n2_ n3_ n4_ n5_
       (try clear hb)
       (try clear hb2)
       (try clear hk)
       (try clear hi)
       (try clear ho0)
       obtain ⟨Ao38, co38, eo38⟩ := Kd.R_slice HO190.out
       (first | subst eo38 | (injection eo38 with f1_ f2_ f3_; have f4_ := f1_.symm; have f5_ := f3_.symm; clear f1_ f2_ f3_; subst f4_; subst f5_))
       obtain ⟨Ao39, co39, eo39⟩ := Kd.V_slice HO194.out
       (first | subst eo39 | (injection eo39 with f1_ f2_ f3_; have f4_ := f1_.symm; have f5_ := f3_.symm; clear f1_ f2_ f3_; subst f4_; subst f5_))
       refine hK.out _ _ ⟨(blk_cell BK186.out 0).trans rfl, (blk_cell BK186.out 1).trans rfl, (blk_cell BK184.out 0).trans rfl, (blk_cell BK184.out 1).trans rfl, (blk_cell BK183.out 0).trans rfl, (blk_cell BK183.out 1).trans rfl⟩ (fun hHeld => ?_)
       clear hK K
       refine norm_ (a' := ?_) ?_ ?_
       rotate_left
       ·show Act.put _ (some 25) _ = _
        simp only [Act.put, List.setIfInBounds_toArray, List.set_cons_zero, List.set_cons_succ, i64_w, i32_w]
        rfl
       refine one_ (i := 6) (N := some 26) #[true, true, true, true, true, true, true, false, false, false, false, false, false, false, false, false, false, false, false, false, false, false, false, false, false, false, false] rfl rfl (one_of HT_.out (by kernel_rfl)) (by decide) (fun K hK => ?_)
       refine goes_ Try.func51 (by kernel_rfl) rfl #[.agg #[.int .i64 t187, .slice Ao38 t188.length co38], .agg #[.int .i64 t191, .slice Ao39 t192.length co39]] (by rfl) rfl rfl (by (try simp only [List.map_toArray, List.map_cons, List.map_nil]); first | done | rfl | (simp only [List.length_drop, List.length_take]; rfl)) ?_
       with_reducible refine (calamuslaw32_same.calls kj3 t187 _ _ t188 t191 _ _ t192 true _ ?side1 ?side2 ?side3 ?side4 A18.out).mono ?_
       (case side1 => repeat (first | exact (Kd.R_reads' HO190.out).2.2 | (with_reducible refine Kd.C_alloc ?_ _) | (with_reducible refine Kd.C_drewN ?_ _) | (with_reducible refine Kd.C_drew ?_)))
       (case side2 => exact (Kd.R_reads' HO190.out).2.1)
       (case side3 => repeat (first | exact (Kd.V_reads' HO194.out).2.2 | (with_reducible refine Kd.C_alloc ?_ _) | (with_reducible refine Kd.C_drewN ?_ _) | (with_reducible refine Kd.C_drew ?_)))
       (case side4 => exact (Kd.V_reads' HO194.out).2.1)
       rintro e w40 ⟨rfl, hb⟩
       refine ⟨_, rfl, ?_⟩
       have n0_ := Aside0.mk (Kd.R_below (rw_ HO190.out) hb)
       have n1_ := Aside0.mk (Kd.V_below (vw_ HO194.out) hb)
       have n2_ := bb_ BK183 hb
       have n3_ := bb_ BK184 hb
       have n4_ := bb_ BK186 hb
       have n5_ := bs_ HB hb
       clear HO190
       clear HO194
       clear BK183
       clear BK184
       clear BK186
       clear HB
       have HO190 := n0_
       have HO194 := n1_
       have BK183 := n2_
       have BK184 := n3_
       have BK186 := n4_
       have HB := n5_
       clear n0_ n1_ n2_ n3_ n4_ n5_
       (try clear hb)
       (try clear hb2)
       (try clear hk)
       (try clear hi)
       refine hK.out _ _ ⟨(blk_cell BK186.out 0).trans rfl, (blk_cell BK186.out 1).trans rfl, (blk_cell BK184.out 0).trans rfl, (blk_cell BK184.out 1).trans rfl, (blk_cell BK183.out 0).trans rfl, (blk_cell BK183.out 1).trans rfl⟩ (fun hHeld => ?_)
       clear hK K
       refine norm_ (a' := ?_) ?_ ?_
       rotate_left
       ·show Act.put _ (some 26) _ = _
        simp only [Act.put, List.setIfInBounds_toArray, List.set_cons_zero, List.set_cons_succ, i64_w, i32_w]
        rfl
       refine pp_ (i := 7) (N := some 27) #[true, true, true, true, true, true, true, true, false, false, false, false, false, false, false, false, false, false, false, false, false, false, false, false, false, false, false] rfl rfl (any_of HT_.out (by kernel_rfl)) (h := ?_)
       refine take_ (i := 8) (N := some 28) (v := ?_) (a' := ?_) #[true, true, true, true, true, true, true, true, true, false, false, false, false, false, false, false, false, false, false, false, false, false, false, false, false, false, false] rfl rfl (take_ofW HT_.out HW_.out (by kernel_rfl)) (fun _ _ _ h => h) (Or.inl ⟨by rfl, ?_⟩) hHeld ?_ ?_
       rotate_left
       ·rintro w' ⟨s0, s1, s2, s3, s4, s5⟩
        go_simp
        with_reducible rfl
       rotate_left
       ·simp only [Act.put, List.setIfInBounds_toArray, List.set_cons_zero, List.set_cons_succ, i64_w, i32_w]
        rfl
       refine take_ (i := 10) (N := some 30) (v := ?_) (a' := ?_) #[true, true, true, true, true, true, true, true, true, false, true, false, false, false, false, false, false, false, false, false, false, false, false, false, false, false, false] rfl rfl (take_ofW HT_.out HW_.out (by kernel_rfl)) (fun _ _ _ h => h) (Or.inl ⟨by rfl, ?_⟩) hHeld ?_ ?_
       rotate_left
       ·rintro w' ⟨s0, s1, s2, s3, s4, s5⟩
        go_simp
        with_reducible rfl
       rotate_left
       ·simp only [Act.put, List.setIfInBounds_toArray, List.set_cons_zero, List.set_cons_succ, i64_w, i32_w]
        rfl
       refine one_ (i := 9) (N := some 29) #[true, true, true, true, true, true, true, true, true, true, true, false, false, false, false, false, false, false, false, false, false, false, false, false, false, false, false] rfl rfl (one_of HT_.out (by kernel_rfl)) (by decide) (fun K hK => ?_)
       refine goes_ Try.func54 (by kernel_rfl) rfl #[.agg #[.int .i64 a0_0, .slice A0_1 l0_1.length c0_1]] (by rfl) rfl rfl (by (try simp only [List.map_toArray, List.map_cons, List.map_nil]); first | done | rfl | (simp only [List.length_drop, List.length_take]; rfl)) ?_
       with_reducible refine (fall_Count.calls a0_0 _ _ l0_1 t196 _ ?side1 ?side2 A20.out).mono ?_
       (case side1 => exact cw_ (Kd.C_below HR0_1.out HB.out))
       (case side2 => exact HC0_1.out)
       rintro e w41 ⟨rfl, hb⟩
       refine ⟨_, rfl, ?_⟩
       have n0_ := Aside0.mk (Kd.R_below (rw_ HO190.out) hb)
       have n1_ := Aside0.mk (Kd.V_below (vw_ HO194.out) hb)
       have n2_ := bb_ BK183 hb
       have n3_ := bb_ BK184 hb
       have n4_ := bb_ BK186 hb
       have n5_ := bs_ HB hb
       clear HO190
       clear HO194
       clear BK183
       clear BK184
       clear BK186
       clear HB
       have HO190 := n0_
       have HO194 := n1_
       have BK183 := n2_
       have BK184 := n3_
       have BK186 := n4_
       have HB := n5_
       clear n0_ n1_ n2_ n3_ n4_ n5_
       (try clear hb)
       (try clear hb2)
       (try clear hk)
       (try clear hi)
       refine hK.out _ _ ⟨(blk_cell BK186.out 0).trans rfl, (blk_cell BK186.out 1).trans rfl, (blk_cell BK184.out 0).trans rfl, (blk_cell BK184.out 1).trans rfl, (blk_cell BK183.out 0).trans rfl, (blk_cell BK183.out 1).trans rfl⟩ (fun hHeld => ?_)
       clear hK K
       refine norm_ (a' := ?_) ?_ ?_
       rotate_left
       ·show Act.put _ (some 29) _ = _
        simp only [Act.put, List.setIfInBounds_toArray, List.set_cons_zero, List.set_cons_succ, i64_w, i32_w]
        rfl
       refine one_ (i := 11) (N := some 31) #[true, true, true, true, true, true, true, true, true, true, true, true, false, false, false, false, false, false, false, false, false, false, false, false, false, false, false] rfl rfl (one_of HT_.out (by kernel_rfl)) (by decide) (fun K hK => ?_)
       refine goes_ Try.func55 (by kernel_rfl) rfl #[.agg #[.int .i64 a0_0, .slice A0_1 l0_1.length c0_1]] (by rfl) rfl rfl (by (try simp only [List.map_toArray, List.map_cons, List.map_nil]); first | done | rfl | (simp only [List.length_drop, List.length_take]; rfl)) ?_
       with_reducible refine (calamusref32_Count.calls kj3 a0_0 _ _ l0_1 t197 _ ?side1 ?side2 A21.out).mono ?_
       (case side1 => exact cw_ (Kd.C_below HR0_1.out HB.out))
       (case side2 => exact HC0_1.out)
       rintro e w42 ⟨rfl, hb⟩
       refine ⟨_, rfl, ?_⟩
       have n0_ := Aside0.mk (Kd.R_below (rw_ HO190.out) hb)
       have n1_ := Aside0.mk (Kd.V_below (vw_ HO194.out) hb)
       have n2_ := bb_ BK183 hb
       have n3_ := bb_ BK184 hb
       have n4_ := bb_ BK186 hb
       have n5_ := bs_ HB hb
       clear HO190
       clear HO194
       clear BK183
       clear BK184
       clear BK186
       clear HB
       have HO190 := n0_
       have HO194 := n1_
       have BK183 := n2_
       have BK184 := n3_
       have BK186 := n4_
       have HB := n5_
       clear n0_ n1_ n2_ n3_ n4_ n5_
       (try clear hb)
       (try clear hb2)
       (try clear hk)
       (try clear hi)
       refine hK.out _ _ ⟨(blk_cell BK186.out 0).trans rfl, (blk_cell BK186.out 1).trans rfl, (blk_cell BK184.out 0).trans rfl, (blk_cell BK184.out 1).trans rfl, (blk_cell BK183.out 0).trans rfl, (blk_cell BK183.out 1).trans rfl⟩ (fun hHeld => ?_)
       clear hK K
       refine norm_ (a' := ?_) ?_ ?_
       rotate_left
       ·show Act.put _ (some 31) _ = _
        simp only [Act.put, List.setIfInBounds_toArray, List.set_cons_zero, List.set_cons_succ, i64_w, i32_w]
        rfl
       refine pp_ (i := 12) (N := some 32) #[true, true, true, true, true, true, true, true, true, true, true, true, true, false, false, false, false, false, false, false, false, false, false, false, false, false, false] rfl rfl (any_of HT_.out (by kernel_rfl)) (h := ?_)
       refine pp_ (i := 13) (N := some 33) #[true, true, true, true, true, true, true, true, true, true, true, true, true, true, false, false, false, false, false, false, false, false, false, false, false, false, false] rfl rfl (any_of HT_.out (by kernel_rfl)) (h := ?_)
       refine pp_ (i := 14) (N := some 34) #[true, true, true, true, true, true, true, true, true, true, true, true, true, true, true, false, false, false, false, false, false, false, false, false, false, false, false] rfl rfl (any_of HT_.out (by kernel_rfl)) (h := ?_)
       refine pp_ (i := 16) (N := some 36) #[true, true, true, true, true, true, true, true, true, true, true, true, true, true, true, false, true, false, false, false, false, false, false, false, false, false, false] rfl rfl (any_of HT_.out (by kernel_rfl)) (h := ?_)
       refine pp_ (i := 19) (N := some 39) #[true, true, true, true, true, true, true, true, true, true, true, true, true, true, true, false, true, false, false, true, false, false, false, false, false, false, false] rfl rfl (any_of HT_.out (by kernel_rfl)) (h := ?_)
       refine take_ (i := 15) (N := some 35) (v := ?_) (a' := ?_) #[true, true, true, true, true, true, true, true, true, true, true, true, true, true, true, true, true, false, false, true, false, false, false, false, false, false, false] rfl rfl (take_ofW HT_.out HW_.out (by kernel_rfl)) (fun _ _ _ h => h) (Or.inl ⟨by rfl, ?_⟩) hHeld ?_ ?_
       rotate_left
       ·rintro w' ⟨s0, s1, s2, s3, s4, s5⟩
        go_simp
        with_reducible rfl
       rotate_left
       ·simp only [Act.put, List.setIfInBounds_toArray, List.set_cons_zero, List.set_cons_succ, i64_w, i32_w]
        rfl
       refine take_ (i := 18) (N := some 38) (v := ?_) (a' := ?_) #[true, true, true, true, true, true, true, true, true, true, true, true, true, true, true, true, true, false, true, true, false, false, false, false, false, false, false] rfl rfl (take_ofW HT_.out HW_.out (by kernel_rfl)) (fun _ _ _ h => h) (Or.inl ⟨by rfl, ?_⟩) hHeld ?_ ?_
       rotate_left
       ·rintro w' ⟨s0, s1, s2, s3, s4, s5⟩
        go_simp
        with_reducible rfl
       rotate_left
       ·simp only [Act.put, List.setIfInBounds_toArray, List.set_cons_zero, List.set_cons_succ, i64_w, i32_w]
        rfl
       refine one_ (i := 17) (N := some 37) #[true, true, true, true, true, true, true, true, true, true, true, true, true, true, true, true, true, true, true, true, false, false, false, false, false, false, false] rfl rfl (one_of HT_.out (by kernel_rfl)) (by decide) (fun K hK => ?_)
       refine goes_ Try.func56 (by kernel_rfl) rfl #[.agg #[.int .i64 a0_0, .slice A0_1 l0_1.length c0_1], .int .i64 a2] (by rfl) rfl rfl (by (try simp only [List.map_toArray, List.map_cons, List.map_nil]); first | done | rfl | (simp only [List.length_drop, List.length_take]; rfl)) ?_
       with_reducible refine (fall_Nth.calls a0_0 _ _ l0_1 a2 t198 t199 _ ?side1 ?side2 A23.out).mono ?_
       (case side1 => exact cw_ (Kd.C_below HR0_1.out HB.out))
       (case side2 => exact HC0_1.out)
       rintro e w43 ⟨v200, rfl, ho0, hb⟩
       refine ⟨_, rfl, ?_⟩
       have n0_ := Aside0.mk (Kd.R_elder' (rw_ HO190.out) (Kd.R_base ho0) hb)
       have n1_ := Aside0.mk (Kd.V_elder' (vw_ HO194.out) (Kd.R_base ho0) hb)
       have n2_ := Aside0.mk (Kd.R_lower (Kd.R_new' ho0 (Kd.R_lt (rw_ HO190.out))) (below_size (hb_ HB)))
       have n3_ := bb_ BK183 hb
       have n4_ := bb_ BK184 hb
       have n5_ := bb_ BK186 hb
       have n6_ := bs_ HB hb
       clear HO190
       clear HO194
       clear BK183
       clear BK184
       clear BK186
       clear HB
       have HO190 := n0_
       have HO194 := n1_
       have HO201 := n2_
       have BK183 := n3_
       have BK184 := n4_
       have BK186 := n5_
       have HB := n6_
       clear n0_ n1_ n2_ n3_ n4_ n5_ n6_
       (try clear hb)
       (try clear hb2)
       (try clear hk)
       (try clear hi)
       (try clear ho0)
       refine hK.out _ _ ⟨(blk_cell BK186.out 0).trans rfl, (blk_cell BK186.out 1).trans rfl, (blk_cell BK184.out 0).trans rfl, (blk_cell BK184.out 1).trans rfl, (blk_cell BK183.out 0).trans rfl, (blk_cell BK183.out 1).trans rfl⟩ (fun hHeld => ?_)
       clear hK K
       refine norm_ (a' := ?_) ?_ ?_
       rotate_left
       ·show Act.put _ (some 37) _ = _
        simp only [Act.put, List.setIfInBounds_toArray, List.set_cons_zero, List.set_cons_succ, i64_w, i32_w]
        rfl
       refine one_ (i := 20) (N := some 40) #[true, true, true, true, true, true, true, true, true, true, true, true, true, true, true, true, true, true, true, true, true, false, false, false, false, false, false] rfl rfl (one_of HT_.out (by kernel_rfl)) (by decide) (fun K hK => ?_)
       refine goes_ Try.func57 (by kernel_rfl) rfl #[.agg #[.int .i64 a0_0, .slice A0_1 l0_1.length c0_1], .int .i64 a2] (by rfl) rfl rfl (by (try simp only [List.map_toArray, List.map_cons, List.map_nil]); first | done | rfl | (simp only [List.length_drop, List.length_take]; rfl)) ?_
       with_reducible refine (calamusref32_Nth.calls kj3 a0_0 _ _ l0_1 a2 t202 t203 _ ?side1 ?side2 A24.out).mono ?_
       (case side1 => exact cw_ (Kd.C_below HR0_1.out HB.out))
       (case side2 => exact HC0_1.out)
       rintro e w44 ⟨v204, rfl, ho0, hb⟩
       refine ⟨_, rfl, ?_⟩
       have n0_ := Aside0.mk (Kd.R_below (rw_ HO190.out) hb)
       have n1_ := Aside0.mk (Kd.V_below (vw_ HO194.out) hb)
       have n2_ := Aside0.mk (Kd.R_below (rw_ HO201.out) hb)
       have n3_ := Aside0.mk (Kd.V_lower (Kd.V_mono (ok' := fun k_ => some k_ ≠ (.slice Ao38 t188.length co38 : Value).ownBlock ∧ some k_ ≠ (v200 : Value).ownBlock ∧ k_ ≠ gb183 ∧ k_ ≠ gb184 ∧ k_ ≠ gb186) ho0 (fun k_ hk_ => ⟨(Kd.fresh' (Kd.R_lt (rw_ HO190.out)) k_ hk_), (Kd.fresh' (Kd.R_lt (rw_ HO201.out)) k_ hk_), (Kd.freshB (g := gb183) (o := .cells #[.int .i64 a0_0, .slice A0_1 l0_1.length c0_1] 57 (0, 0)) (bw_ BK183.out) k_ hk_), (Kd.freshB (g := gb184) (o := .cells #[.int .i64 a1_0, .slice A1_1 l1_1.length c1_1] 57 (0, 0)) (bw_ BK184.out) k_ hk_), (Kd.freshB (g := gb186) (o := .cells #[.int .i64 a0_0, .slice A0_1 l0_1.length c0_1] 58 (0, 0)) (bw_ BK186.out) k_ hk_)⟩)) (below_size (hb_ HB)))
       have n4_ := bb_ BK183 hb
       have n5_ := bb_ BK184 hb
       have n6_ := bb_ BK186 hb
       have n7_ := bs_ HB hb
       clear HO190
       clear HO194
       clear HO201
       clear BK183
       clear BK184
       clear BK186
       clear HB
       have HO190 := n0_
       have HO194 := n1_
       have HO201 := n2_
       have HO205 := n3_
       have BK183 := n4_
       have BK184 := n5_
       have BK186 := n6_
       have HB := n7_
       clear n0_ n1_ n2_ n3_ n4_ n5_ n6_ n7_
       (try clear hb)
       (try clear hb2)
       (try clear hk)
       (try clear hi)
       (try clear ho0)
       obtain ⟨Ao45, co45, eo45⟩ := Kd.R_slice HO201.out
       (first | subst eo45 | (injection eo45 with f1_ f2_ f3_; have f4_ := f1_.symm; have f5_ := f3_.symm; clear f1_ f2_ f3_; subst f4_; subst f5_))
       obtain ⟨Ao46, co46, eo46⟩ := Kd.V_slice HO205.out
       (first | subst eo46 | (injection eo46 with f1_ f2_ f3_; have f4_ := f1_.symm; have f5_ := f3_.symm; clear f1_ f2_ f3_; subst f4_; subst f5_))
       refine hK.out _ _ ⟨(blk_cell BK186.out 0).trans rfl, (blk_cell BK186.out 1).trans rfl, (blk_cell BK184.out 0).trans rfl, (blk_cell BK184.out 1).trans rfl, (blk_cell BK183.out 0).trans rfl, (blk_cell BK183.out 1).trans rfl⟩ (fun hHeld => ?_)
       clear hK K
       refine norm_ (a' := ?_) ?_ ?_
       rotate_left
       ·show Act.put _ (some 40) _ = _
        simp only [Act.put, List.setIfInBounds_toArray, List.set_cons_zero, List.set_cons_succ, i64_w, i32_w]
        rfl
       refine one_ (i := 21) (N := some 41) #[true, true, true, true, true, true, true, true, true, true, true, true, true, true, true, true, true, true, true, true, true, true, false, false, false, false, false] rfl rfl (one_of HT_.out (by kernel_rfl)) (by decide) (fun K hK => ?_)
       refine goes_ Try.func51 (by kernel_rfl) rfl #[.agg #[.int .i64 t198, .slice Ao45 t199.length co45], .agg #[.int .i64 t202, .slice Ao46 t203.length co46]] (by rfl) rfl rfl (by (try simp only [List.map_toArray, List.map_cons, List.map_nil]); first | done | rfl | (simp only [List.length_drop, List.length_take]; rfl)) ?_
       with_reducible refine (calamuslaw32_same.calls kj3 t198 _ _ t199 t202 _ _ t203 true _ ?side1 ?side2 ?side3 ?side4 A25.out).mono ?_
       (case side1 => repeat (first | exact (Kd.R_reads' HO201.out).2.2 | (with_reducible refine Kd.C_alloc ?_ _) | (with_reducible refine Kd.C_drewN ?_ _) | (with_reducible refine Kd.C_drew ?_)))
       (case side2 => exact (Kd.R_reads' HO201.out).2.1)
       (case side3 => repeat (first | exact (Kd.V_reads' HO205.out).2.2 | (with_reducible refine Kd.C_alloc ?_ _) | (with_reducible refine Kd.C_drewN ?_ _) | (with_reducible refine Kd.C_drew ?_)))
       (case side4 => exact (Kd.V_reads' HO205.out).2.1)
       rintro e w47 ⟨rfl, hb⟩
       refine ⟨_, rfl, ?_⟩
       have n0_ := Aside0.mk (Kd.R_below (rw_ HO190.out) hb)
       have n1_ := Aside0.mk (Kd.V_below (vw_ HO194.out) hb)
       have n2_ := Aside0.mk (Kd.R_below (rw_ HO201.out) hb)
       have n3_ := Aside0.mk (Kd.V_below (vw_ HO205.out) hb)
       have n4_ := bb_ BK183 hb
       have n5_ := bb_ BK184 hb
       have n6_ := bb_ BK186 hb
       have n7_ := bs_ HB hb
       clear HO190
       clear HO194
       clear HO201
       clear HO205
       clear BK183
       clear BK184
       clear BK186
       clear HB
       have HO190 := n0_
       have HO194 := n1_
       have HO201 := n2_
       have HO205 := n3_
       have BK183 := n4_
       have BK184 := n5_
       have BK186 := n6_
       have HB := n7_
       clear n0_ n1_ n2_ n3_ n4_ n5_ n6_ n7_
       (try clear hb)
       (try clear hb2)
       (try clear hk)
       (try clear hi)
       refine hK.out _ _ ⟨(blk_cell BK186.out 0).trans rfl, (blk_cell BK186.out 1).trans rfl, (blk_cell BK184.out 0).trans rfl, (blk_cell BK184.out 1).trans rfl, (blk_cell BK183.out 0).trans rfl, (blk_cell BK183.out 1).trans rfl⟩ (fun hHeld => ?_)
       clear hK K
       refine norm_ (a' := ?_) ?_ ?_
       rotate_left
       ·show Act.put _ (some 41) _ = _
        simp only [Act.put, List.setIfInBounds_toArray, List.set_cons_zero, List.set_cons_succ, i64_w, i32_w]
        rfl
       refine pp_ (i := 22) (N := some 42) #[true, true, true, true, true, true, true, true, true, true, true, true, true, true, true, true, true, true, true, true, true, true, true, false, false, false, false] rfl rfl (any_of HT_.out (by kernel_rfl)) (h := ?_)
       refine pp_ (i := 23) (N := some 43) #[true, true, true, true, true, true, true, true, true, true, true, true, true, true, true, true, true, true, true, true, true, true, true, true, false, false, false] rfl rfl (any_of HT_.out (by kernel_rfl)) (h := ?_)
       refine one_ (i := 24) (N := some 44) #[true, true, true, true, true, true, true, true, true, true, true, true, true, true, true, true, true, true, true, true, true, true, true, true, true, false, false] rfl rfl (one_of HT_.out (by kernel_rfl)) (by decide) (fun K hK => ?_)
       refine goes_ Try.func50 (by kernel_rfl) rfl #[] (by rfl) rfl rfl (by (try simp only [List.map_toArray, List.map_cons, List.map_nil]); first | done | rfl | (simp only [List.length_drop, List.length_take]; rfl)) ?_
       with_reducible refine (calamuslaw32_lives.calls  t207 _ A27.out).mono ?_
       rintro e w48 ⟨rfl, hb⟩
       refine ⟨_, rfl, ?_⟩
       have n0_ := Aside0.mk (Kd.R_below (rw_ HO190.out) hb)
       have n1_ := Aside0.mk (Kd.V_below (vw_ HO194.out) hb)
       have n2_ := Aside0.mk (Kd.R_below (rw_ HO201.out) hb)
       have n3_ := Aside0.mk (Kd.V_below (vw_ HO205.out) hb)
       have n4_ := bb_ BK183 hb
       have n5_ := bb_ BK184 hb
       have n6_ := bb_ BK186 hb
       have n7_ := bs_ HB hb
       clear HO190
       clear HO194
       clear HO201
       clear HO205
       clear BK183
       clear BK184
       clear BK186
       clear HB
       have HO190 := n0_
       have HO194 := n1_
       have HO201 := n2_
       have HO205 := n3_
       have BK183 := n4_
       have BK184 := n5_
       have BK186 := n6_
       have HB := n7_
       clear n0_ n1_ n2_ n3_ n4_ n5_ n6_ n7_
       (try clear hb)
       (try clear hb2)
       (try clear hk)
       (try clear hi)
       refine hK.out _ _ ⟨(blk_cell BK186.out 0).trans rfl, (blk_cell BK186.out 1).trans rfl, (blk_cell BK184.out 0).trans rfl, (blk_cell BK184.out 1).trans rfl, (blk_cell BK183.out 0).trans rfl, (blk_cell BK183.out 1).trans rfl⟩ (fun hHeld => ?_)
       clear hK K
       refine norm_ (a' := ?_) ?_ ?_
       rotate_left
       ·show Act.put _ (some 44) _ = _
        simp only [Act.put, List.setIfInBounds_toArray, List.set_cons_zero, List.set_cons_succ, i64_w, i32_w]
        rfl
       refine pp_ (i := 25) (N := some 45) #[true, true, true, true, true, true, true, true, true, true, true, true, true, true, true, true, true, true, true, true, true, true, true, true, true, true, false] rfl rfl (any_of HT_.out (by kernel_rfl)) (h := ?_)
       refine pp_ (i := 26) (N := some 6) #[true, true, true, true, true, true, true, true, true, true, true, true, true, true, true, true, true, true, true, true, true, true, true, true, true, true, true] rfl rfl (any_of HT_.out (by kernel_rfl)) (h := ?_)
       refine done_ (done_of HT_.out (by kernel_rfl)) ?_
       try go_wp2
       go_ret
       exact ⟨er_, hb_ HB⟩
      ·replace c26 := Bool.eq_false_iff.mpr c26
       subst c26
       have H1 : (some false) = some r := by rw [if_neg (show ¬ (false = true) by decide)] at H; exact H
       clear H
       have H := H1
       clear H1
       exact nf_ H hr_
     ·rw [if_neg c22] at H
      have c22b0 : (t196 == t197) = false := beq_eq_false_iff_ne.mpr c22
      have c22b1 : (t196 != t197) = true := bne_iff_ne.mpr c22
      exact nf_ H hr_
    ·replace c19 := Bool.eq_false_iff.mpr c19
     subst c19
     have H1 : (some false) = some r := by rw [if_neg (show ¬ (false = true) by decide)] at H; exact H
     clear H
     have H := H1
     clear H1
     exact nf_ H hr_
end Go.Proofs.Ytjobaaolohemgaa.PFallChoices
