/- Of the law calamus/calamuslaw11.TreeAdds: each function as a plain Lean function, with a proof that the call comes to it; the row. By wip/tpl/own_print.py. Conditions: none but the row's own. -/
import Derived.Test.YtkiokimpblimcaaOTreeAddsx0
import Derived.Test.YtkiokimpblimcaaOTreeAddsx2
namespace Go.Proofs.Ytkiokimpblimcaa.PTreeAdds
open Go.RowKit Go.Proofs.YtkiokimpblimcaaW.PrintWords Go.Proofs.YtkiokimpblimcaaW.PrintLast Go.Proofs.YtkiokimpblimcaaW.PrintMore
attribute [local go_sem] max2_int min2_int max_two min_two max_three min_three max_four min_four   -- for this text's walks alone
set_option linter.unusedVariables false
set_option linter.unusedSimpArgs false

attribute [local go_sem high] eqA69
/-! ### calamusref11_Same: function 38 -/
mutual
def calamusref11_Same.j0 : Nat → Bool → List (S69) → Int → List (S69) → Int → Option (Bool)
 | 0, _, _, _, _, _ => none
 | k + 1, x19, x272000, x272001, x273000, x273001 => if x19 = true then (some false) else (calamusref11_Same.l0 k 0 x272000 x272001 x273000 x273001)
def calamusref11_Same.l0 : Nat → Int → List (S69) → Int → List (S69) → Int → Option (Bool)
 | 0, _, _, _, _, _ => none
 | k + 1, x5, x272000, x272001, x273000, x273001 => if x5 < (x272000.length : Int) then (if 0 ≤ x5 then (if x5 < (x273000.length : Int) then (if (!(((rd_T69 x272000 x5).f0) == ((rd_T69 x273000 x5).f0)) || (!(((rd_T69 x272000 x5).f1) == ((rd_T69 x273000 x5).f1)) || (!(((rd_T69 x272000 x5).f2) == ((rd_T69 x273000 x5).f2)) || (!(((rd_T69 x272000 x5).f3) == ((rd_T69 x273000 x5).f3)) || ((!(((rd_T69 x272000 x5).f4.f0) == ((rd_T69 x273000 x5).f4.f0)) || (!((((rd_T69 x272000 x5).f4.f1).toList) == (((rd_T69 x273000 x5).f4.f1).toList)) || (!((((rd_T69 x272000 x5).f4.f2).toList) == (((rd_T69 x273000 x5).f4.f2).toList)))))))))) = true then (some false) else (calamusref11_Same.l0 k (wrap64 (x5 + 1)) x272000 x272001 x273000 x273001)) else (none)) else (none)) else (some true)
end
def calamusref11_Same.f (k : Nat) (l0_0 : List (S69)) (a0_1 : Int) (l1_0 : List (S69)) (a1_1 : Int) : Option (Bool) := if a0_1 = a1_1 then (calamusref11_Same.j0 k ((l0_0.length : Int) != (l1_0.length : Int)) l0_0 a0_1 l1_0 a1_1) else (calamusref11_Same.j0 k true l0_0 a0_1 l1_0 a1_1)
theorem calamusref11_Same.mono_l : ∀ k, (∀ y0 y1 y2 y3 y4, LeO (calamusref11_Same.j0 k y0 y1 y2 y3 y4) (calamusref11_Same.j0 (k + 1) y0 y1 y2 y3 y4)) ∧ (∀ y0 y1 y2 y3 y4, LeO (calamusref11_Same.l0 k y0 y1 y2 y3 y4) (calamusref11_Same.l0 (k + 1) y0 y1 y2 y3 y4))
 | 0 => ⟨fun _ _ _ _ _ r h => by simp [calamusref11_Same.j0] at h, fun _ _ _ _ _ r h => by simp [calamusref11_Same.l0] at h⟩
 | k + 1 => by
  obtain ⟨ih0, ih1⟩ := calamusref11_Same.mono_l k
  refine ⟨?_, ?_⟩
  ·intro y0 y1 y2 y3 y4
   unfold calamusref11_Same.j0
   repeat' first
   | (with_reducible exact ih0 _ _ _ _ _)
   | (with_reducible exact ih1 _ _ _ _ _)
   | (with_reducible exact LeO.refl _)
   | (with_reducible exact LeO.none _)
   | (with_reducible refine LeO.ite ?_ ?_)
   | (with_reducible refine LeO.bind ?_ (fun _ => ?_))
   | exact ih0 _ _ _ _ _
   | exact ih1 _ _ _ _ _
   | exact LeO.none _
   | refine LeO.ite ?_ ?_
   | refine LeO.bind ?_ (fun _ => ?_)
  ·intro y0 y1 y2 y3 y4
   unfold calamusref11_Same.l0
   repeat' first
   | (with_reducible exact ih0 _ _ _ _ _)
   | (with_reducible exact ih1 _ _ _ _ _)
   | (with_reducible exact LeO.refl _)
   | (with_reducible exact LeO.none _)
   | (with_reducible refine LeO.ite ?_ ?_)
   | (with_reducible refine LeO.bind ?_ (fun _ => ?_))
   | exact ih0 _ _ _ _ _
   | exact ih1 _ _ _ _ _
   | exact LeO.none _
   | refine LeO.ite ?_ ?_
   | refine LeO.bind ?_ (fun _ => ?_)
theorem calamusref11_Same.mono : ∀ a0 a1 a2 a3 k, LeO (calamusref11_Same.f k a0 a1 a2 a3) (calamusref11_Same.f (k + 1) a0 a1 a2 a3) := by
 intro a0 a1 a2 a3 k
 obtain ⟨ih0, ih1⟩ := calamusref11_Same.mono_l k
 unfold calamusref11_Same.f
 repeat' first
   | (with_reducible exact ih0 _ _ _ _ _)
   | (with_reducible exact ih1 _ _ _ _ _)
   | (with_reducible exact LeO.refl _)
   | (with_reducible exact LeO.none _)
   | (with_reducible refine LeO.ite ?_ ?_)
   | (with_reducible refine LeO.bind ?_ (fun _ => ?_))
   | exact ih0 _ _ _ _ _
   | exact ih1 _ _ _ _ _
   | exact LeO.none _
   | refine LeO.ite ?_ ?_
   | refine LeO.bind ?_ (fun _ => ?_)
set_option maxHeartbeats 8000000 in
set_option maxRecDepth 100000 in
theorem calamusref11_Same.calls (k : Nat) (A0_0 : Option Addr) (c0_0 : Nat) (l0_0 : List (S69)) (a0_1 : Int) (A1_0 : Option Addr) (c1_0 : Nat) (l1_0 : List (S69)) (a1_1 : Int) (r : Bool) (w : World) (hr0_0 : Kd.C k69 w A0_0 l0_0.length l0_0) (hc0_0 : l0_0.length ≤ c0_0) (hr1_0 : Kd.C k69 w A1_0 l1_0.length l1_0) (hc1_0 : l1_0.length ≤ c1_0) (h : calamusref11_Same.f k l0_0 a0_1 l1_0 a1_1 = some r) :
  Calls Try.prog 38 #[.agg #[.slice A0_0 l0_0.length c0_0, .int .i64 a0_1], .agg #[.slice A1_0 l1_0.length c1_0, .int .i64 a1_1]] w fun e w' => e = .returned (.bool r) ∧ Below w.heap.size w w' := by
 have hu46 := Try.underlying46
 have hu69 := Try.underlying69
 have HR0_0 := Aside0.mk hr0_0
 have HC0_0 := Aside0.mk hc0_0
 clear hr0_0 hc0_0
 have HR1_0 := Aside0.mk hr1_0
 have HC1_0 := Aside0.mk hc1_0
 clear hr1_0 hc1_0
 have HB := Aside0.mk (Below.refl w.heap.size w)
 have H : (if a0_1 = a1_1 then (calamusref11_Same.j0 k ((l0_0.length : Int) != (l1_0.length : Int)) l0_0 a0_1 l1_0 a1_1) else (calamusref11_Same.j0 k true l0_0 a0_1 l1_0 a1_1)) = some r := h
 clear h
 have HC3 := Aside0.mk H
 clear H
 go_enter Try.func38, Try.ntmps38
 go_upto_region 1 with (first | ((with_reducible refine gate_dst (N := 2) rfl ?_); (try (refine gate_guard (by rfl) ?_; dsimp only)); refine be_ (N := 2) (cs := #[.slice A0_0 l0_0.length c0_0, .int .i64 a0_1]) (t := 46) (h := ?_); intro gb271 hg w4 hbox hb; have BK271 := Aside0.mk (hbox); have GW271 := gw_ HB hg; have GE271 := gw_ HB hg; replace HB := bs_ HB hb; clear hb hbox hg) | ((with_reducible refine gate_dst (N := 3) rfl ?_); (try (refine gate_guard (by rfl) ?_; dsimp only)); refine be_ (N := 3) (cs := #[.slice A1_0 l1_0.length c1_0, .int .i64 a1_1]) (t := 46) (h := ?_); intro gb272 hg w5 hbox hb; have BK272 := Aside0.mk (hbox); have GW272 := gw_ HB hg; have GE272 := gw_ HB hg; have NB271_272 := ne_ BK271 hg; have NB272_271 := en_ BK271 hg; replace BK271 := bb_ BK271 hb; replace HB := bs_ HB hb; clear hb hbox hg))
 repeat (go_quiet (first | ((with_reducible refine gate_dst (N := 2) rfl ?_); (try (refine gate_guard (by rfl) ?_; dsimp only)); refine be_ (N := 2) (cs := #[.slice A0_0 l0_0.length c0_0, .int .i64 a0_1]) (t := 46) (h := ?_); intro gb271 hg w4 hbox hb; have BK271 := Aside0.mk (hbox); have GW271 := gw_ HB hg; have GE271 := gw_ HB hg; replace HB := bs_ HB hb; clear hb hbox hg) | ((with_reducible refine gate_dst (N := 3) rfl ?_); (try (refine gate_guard (by rfl) ?_; dsimp only)); refine be_ (N := 3) (cs := #[.slice A1_0 l1_0.length c1_0, .int .i64 a1_1]) (t := 46) (h := ?_); intro gb272 hg w5 hbox hb; have BK272 := Aside0.mk (hbox); have GW272 := gw_ HB hg; have GE272 := gw_ HB hg; have NB271_272 := ne_ BK271 hg; have NB272_271 := en_ BK271 hg; replace BK271 := bb_ BK271 hb; replace HB := bs_ HB hb; clear hb hbox hg)); go_upto_region 1 with (first | ((with_reducible refine gate_dst (N := 2) rfl ?_); (try (refine gate_guard (by rfl) ?_; dsimp only)); refine be_ (N := 2) (cs := #[.slice A0_0 l0_0.length c0_0, .int .i64 a0_1]) (t := 46) (h := ?_); intro gb271 hg w4 hbox hb; have BK271 := Aside0.mk (hbox); have GW271 := gw_ HB hg; have GE271 := gw_ HB hg; replace HB := bs_ HB hb; clear hb hbox hg) | ((with_reducible refine gate_dst (N := 3) rfl ?_); (try (refine gate_guard (by rfl) ?_; dsimp only)); refine be_ (N := 3) (cs := #[.slice A1_0 l1_0.length c1_0, .int .i64 a1_1]) (t := 46) (h := ?_); intro gb272 hg w5 hbox hb; have BK272 := Aside0.mk (hbox); have GW272 := gw_ HB hg; have GE272 := gw_ HB hg; have NB271_272 := ne_ BK271 hg; have NB272_271 := en_ BK271 hg; replace BK271 := bb_ BK271 hb; replace HB := bs_ HB hb; clear hb hbox hg)))
 (try simp only [Act.put, List.setIfInBounds_toArray, List.set_cons_zero, List.set_cons_succ])
 go_cut [19] (fun v19 wc => ∃ (kq : Nat) (x19_2 : Bool), v19 = .bool x19_2 ∧ Aside0 (calamusref11_Same.j0 kq x19_2 l0_0 a0_1 l1_0 a1_1 = some r) ∧ Aside0 (kq ≤ k) ∧ Aside0 (wc.heap[gb271]? = some (.cells #[(.slice A0_0 l0_0.length c0_0), .int .i64 a0_1] 46 (0, 0))) ∧ Aside0 (wc.heap[gb272]? = some (.cells #[(.slice A1_0 l1_0.length c1_0), .int .i64 a1_1] 46 (0, 0))) ∧ Aside0 (Below w.heap.size w wc))
 case first =>
  have H := HC3.out
  clear HC3
  by_cases c6 : a0_1 = a1_1
  ·rw [if_pos c6] at H
   have c6b0 : (a0_1 == a1_1) = true := beq_iff_eq.mpr c6
   have c6b1 : (a0_1 != a1_1) = false := bne_eq_false_iff_eq.mpr c6
   clear c6
   (first | rw [c6b0] | (simp only [i64_w, i32_w]; rw [c6b0]) | skip)
   have H' := Aside0.mk H
   clear H
   have hnb7 := NB271_272.out
   have hnc7 := NB272_271.out
   obtain ⟨hcz8_0, hcz8_1, hfz8_0, hfz8_1⟩ := bc2_ BK271
   obtain ⟨hcz9_0, hcz9_1, hfz9_0, hfz9_1⟩ := bc2_ BK272
   go_wp2
   repeat (go_quiet (fail); try go_wp2)
   go_meet
   case rel => exact ⟨_, (((l0_0.length : Int) != (l1_0.length : Int))), es_, H', ⟨by first | omega | exact Nat.le_refl _⟩, ⟨bw_ BK271.out⟩, ⟨bw_ BK272.out⟩, ⟨hb_ HB⟩⟩
  ·rw [if_neg c6] at H
   have c6b0 : (a0_1 == a1_1) = false := beq_eq_false_iff_ne.mpr c6
   have c6b1 : (a0_1 != a1_1) = true := bne_iff_ne.mpr c6
   (first | rw [c6b0] | (simp only [i64_w, i32_w]; rw [c6b0]) | skip)
   have H' := Aside0.mk H
   clear H
   have hnb10 := NB271_272.out
   have hnc10 := NB272_271.out
   obtain ⟨hcz11_0, hcz11_1, hfz11_0, hfz11_1⟩ := bc2_ BK271
   obtain ⟨hcz12_0, hcz12_1, hfz12_0, hfz12_1⟩ := bc2_ BK272
   go_wp2
   repeat (go_quiet (fail); try go_wp2)
   go_meet
   case rel => exact ⟨_, (true), es_, H', ⟨by first | omega | exact Nat.le_refl _⟩, ⟨bw_ BK271.out⟩, ⟨bw_ BK272.out⟩, ⟨hb_ HB⟩⟩
 case rest =>
  clear HC3
  obtain ⟨kq, x19_2, rfl, HA, HJ2, BK271, BK272, HB⟩ := hcut
  cases kq with
  | zero => exact absurd HA.out (by simp [calamusref11_Same.j0])
  | succ kj2 =>
   have H := HA.out
   clear HA
   simp only [calamusref11_Same.j0] at H
   by_cases c13 : x19_2 = true
   ·subst c13
    have H1 : (some false) = some r := by rw [if_pos rfl] at H; exact H
    clear H
    have H := H1
    clear H1
    obtain rfl := Option.some.inj H
    go_wp2
    repeat (go_quiet (fail); try go_wp2)
    go_ret
    exact ⟨er_, hb_ HB⟩
   ·replace c13 := Bool.eq_false_iff.mpr c13
    subst c13
    have H1 : (calamusref11_Same.l0 kj2 0 l0_0 a0_1 l1_0 a1_1) = some r := by rw [if_neg (show ¬ (false = true) by decide)] at H; exact H
    clear H
    have H := H1
    clear H1
    have H' := Aside0.mk H
    clear H
    go_wp2
    repeat (go_quiet (fail); try go_wp2)
    go_loopg [5] kj2 (fun kq v5 w' => ∃ (x5_2 : Int), v5 = .int .i64 x5_2 ∧ Aside0 (calamusref11_Same.l0 kq x5_2 l0_0 a0_1 l1_0 a1_1 = some r) ∧ Aside0 (kq ≤ kj2) ∧ Aside0 (w'.heap[gb271]? = some (.cells #[(.slice A0_0 l0_0.length c0_0), .int .i64 a0_1] 46 (0, 0))) ∧ Aside0 (w'.heap[gb272]? = some (.cells #[(.slice A1_0 l1_0.length c1_0), .int .i64 a1_1] 46 (0, 0))) ∧ Aside0 (Below w.heap.size w w'))
    case atStart => exact ⟨(0), es_, H', ⟨Nat.le_refl _⟩, ⟨bw_ BK271.out⟩, ⟨bw_ BK272.out⟩, ⟨hb_ HB⟩⟩
    case round =>
     clear H'
     try clear c13
     obtain ⟨x5_2, rfl, HA, HK2, BK271, BK272, HB⟩ := hrel
     cases gk with
     | zero => exact absurd HA.out (by simp [calamusref11_Same.l0])
     | succ k2 =>
      have H := HA.out
      clear HA
      simp only [calamusref11_Same.l0] at H
      by_cases c14 : x5_2 < (l0_0.length : Int)
      ·rw [if_pos c14] at H
       have c14b0 : decide (x5_2 < (l0_0.length : Int)) = true := decide_eq_true c14
       clear c14
       by_cases c15 : 0 ≤ x5_2
       ·rw [if_pos c15] at H
        have c15b0 : decide (0 ≤ x5_2) = true := decide_eq_true c15
        clear c15
        by_cases c16 : x5_2 < (l1_0.length : Int)
        ·rw [if_pos c16] at H
         have c16b0 : decide (x5_2 < (l1_0.length : Int)) = true := decide_eq_true c16
         clear c16
         by_cases c17 : (!(((rd_T69 l0_0 x5_2).f0) == ((rd_T69 l1_0 x5_2).f0)) || (!(((rd_T69 l0_0 x5_2).f1) == ((rd_T69 l1_0 x5_2).f1)) || (!(((rd_T69 l0_0 x5_2).f2) == ((rd_T69 l1_0 x5_2).f2)) || (!(((rd_T69 l0_0 x5_2).f3) == ((rd_T69 l1_0 x5_2).f3)) || ((!(((rd_T69 l0_0 x5_2).f4.f0) == ((rd_T69 l1_0 x5_2).f4.f0)) || (!((((rd_T69 l0_0 x5_2).f4.f1).toList) == (((rd_T69 l1_0 x5_2).f4.f1).toList)) || (!((((rd_T69 l0_0 x5_2).f4.f2).toList) == (((rd_T69 l1_0 x5_2).f4.f2).toList)))))))))) = true
         ·rw [if_pos c17] at H
          have c17b0 : (!(((rd_T69 l0_0 x5_2).f0) == ((rd_T69 l1_0 x5_2).f0)) || (!(((rd_T69 l0_0 x5_2).f1) == ((rd_T69 l1_0 x5_2).f1)) || (!(((rd_T69 l0_0 x5_2).f2) == ((rd_T69 l1_0 x5_2).f2)) || (!(((rd_T69 l0_0 x5_2).f3) == ((rd_T69 l1_0 x5_2).f3)) || ((!(((rd_T69 l0_0 x5_2).f4.f0) == ((rd_T69 l1_0 x5_2).f4.f0)) || (!((((rd_T69 l0_0 x5_2).f4.f1).toList) == (((rd_T69 l1_0 x5_2).f4.f1).toList)) || (!((((rd_T69 l0_0 x5_2).f4.f2).toList) == (((rd_T69 l1_0 x5_2).f4.f2).toList)))))))))) = true := c17
          clear c17
          obtain rfl := Option.some.inj H
          have hnb18 := NB271_272.out
          have hnc18 := NB272_271.out
          obtain ⟨hcz19_0, hcz19_1, hfz19_0, hfz19_1⟩ := bc2_ BK271
          have p273 : 0 ≤ (x5_2 : Int) := of_decide_eq_true as_
          have q273 : x5_2 < (l0_0.length : Int) := of_decide_eq_true as_
          obtain ⟨ad273, e273, hx273_0, hx273_1, hx273_2, hx273_3, hx273_4, hx273_5, hx273_6⟩ := at_T69b HR0_0 HB x5_2 p273 q273
          cases e273
          replace p273 := eq_true p273
          replace q273 := eq_true q273
          obtain ⟨hcz20_0, hcz20_1, hfz20_0, hfz20_1⟩ := bc2_ BK272
          have p274 : 0 ≤ (x5_2 : Int) := of_decide_eq_true as_
          have q274 : x5_2 < (l1_0.length : Int) := of_decide_eq_true as_
          obtain ⟨ad274, e274, hx274_0, hx274_1, hx274_2, hx274_3, hx274_4, hx274_5, hx274_6⟩ := at_T69b HR1_0 HB x5_2 p274 q274
          cases e274
          replace p274 := eq_true p274
          replace q274 := eq_true q274
          go_wp2
          repeat (go_quiet (fail); try go_wp2)
          go_ret
          exact ⟨er_, hb_ HB⟩
         ·rw [if_neg c17] at H
          have c17b0 : (!(((rd_T69 l0_0 x5_2).f0) == ((rd_T69 l1_0 x5_2).f0)) || (!(((rd_T69 l0_0 x5_2).f1) == ((rd_T69 l1_0 x5_2).f1)) || (!(((rd_T69 l0_0 x5_2).f2) == ((rd_T69 l1_0 x5_2).f2)) || (!(((rd_T69 l0_0 x5_2).f3) == ((rd_T69 l1_0 x5_2).f3)) || ((!(((rd_T69 l0_0 x5_2).f4.f0) == ((rd_T69 l1_0 x5_2).f4.f0)) || (!((((rd_T69 l0_0 x5_2).f4.f1).toList) == (((rd_T69 l1_0 x5_2).f4.f1).toList)) || (!((((rd_T69 l0_0 x5_2).f4.f2).toList) == (((rd_T69 l1_0 x5_2).f4.f2).toList)))))))))) = false := by simpa using c17
          clear c17
          have H' := Aside0.mk H
          clear H
          have hnb21 := NB271_272.out
          have hnc21 := NB272_271.out
          obtain ⟨hcz22_0, hcz22_1, hfz22_0, hfz22_1⟩ := bc2_ BK271
          have p273 : 0 ≤ (x5_2 : Int) := of_decide_eq_true as_
          have q273 : x5_2 < (l0_0.length : Int) := of_decide_eq_true as_
          obtain ⟨ad273, e273, hx273_0, hx273_1, hx273_2, hx273_3, hx273_4, hx273_5, hx273_6⟩ := at_T69b HR0_0 HB x5_2 p273 q273
          cases e273
          replace p273 := eq_true p273
          replace q273 := eq_true q273
          obtain ⟨hcz23_0, hcz23_1, hfz23_0, hfz23_1⟩ := bc2_ BK272
          have p274 : 0 ≤ (x5_2 : Int) := of_decide_eq_true as_
          have q274 : x5_2 < (l1_0.length : Int) := of_decide_eq_true as_
          obtain ⟨ad274, e274, hx274_0, hx274_1, hx274_2, hx274_3, hx274_4, hx274_5, hx274_6⟩ := at_T69b HR1_0 HB x5_2 p274 q274
          cases e274
          replace p274 := eq_true p274
          replace q274 := eq_true q274
          go_wp2
          repeat (go_quiet (fail); try go_wp2)
          go_roundg k2
          case measure => have := HJ2.out; have := HK2.out; omega
          case rel => exact ⟨(wrap64 (x5_2 + 1)), es_, H', ⟨by have := HJ2.out; have := HK2.out; omega⟩, ⟨bw_ BK271.out⟩, ⟨bw_ BK272.out⟩, ⟨hb_ HB⟩⟩
        ·rw [if_neg c16] at H
         exact absurd H (by simp)
       ·rw [if_neg c15] at H
        exact absurd H (by simp)
      ·rw [if_neg c14] at H
       have c14b0 : decide (x5_2 < (l0_0.length : Int)) = false := decide_eq_false c14
       clear c14
       obtain rfl := Option.some.inj H
       have hnb24 := NB271_272.out
       have hnc24 := NB272_271.out
       obtain ⟨hcz25_0, hcz25_1, hfz25_0, hfz25_1⟩ := bc2_ BK271
       go_wp2
       repeat (go_quiet (fail); try go_wp2)
       go_ret
       exact ⟨er_, hb_ HB⟩

/-! ### api_Node_83: function 83 -/
def api_Node_83.l0 : Nat → List (S69) → List (S69) → Int → Int → Option (Bool)
 | 0, _, _, _, _ => none
 | k + 1, x0, x1, x12, x13 => if x13 < x12 then (if 0 ≤ x13 then (if x13 < (x0.length : Int) then (if x13 < (x1.length : Int) then (if (!(((rd_T69 x0 x13).f0) == ((rd_T69 x1 x13).f0)) || (!(((rd_T69 x0 x13).f1) == ((rd_T69 x1 x13).f1)) || (!(((rd_T69 x0 x13).f2) == ((rd_T69 x1 x13).f2)) || (!(((rd_T69 x0 x13).f3) == ((rd_T69 x1 x13).f3)) || ((!(((rd_T69 x0 x13).f4.f0) == ((rd_T69 x1 x13).f4.f0)) || (!((((rd_T69 x0 x13).f4.f1).toList) == (((rd_T69 x1 x13).f4.f1).toList)) || (!((((rd_T69 x0 x13).f4.f2).toList) == (((rd_T69 x1 x13).f4.f2).toList)))))))))) = true then (some false) else (api_Node_83.l0 k x0 x1 x12 (wrap64 (x13 + 1)))) else (none)) else (none)) else (none)) else (some true)
def api_Node_83.f (k : Nat) (l0 : List (S69)) (l1 : List (S69)) : Option (Bool) := if (l0.length : Int) = (l1.length : Int) then (api_Node_83.l0 k l0 l1 (l0.length : Int) 0) else (some false)
theorem api_Node_83.mono_l : ∀ k, (∀ y0 y1 y2 y3, LeO (api_Node_83.l0 k y0 y1 y2 y3) (api_Node_83.l0 (k + 1) y0 y1 y2 y3))
 | 0 => fun _ _ _ _ r h => by simp [api_Node_83.l0] at h
 | k + 1 => by
  have ih0 := api_Node_83.mono_l k
  ·intro y0 y1 y2 y3
   unfold api_Node_83.l0
   repeat' first
   | (with_reducible exact ih0 _ _ _ _)
   | (with_reducible exact LeO.refl _)
   | (with_reducible exact LeO.none _)
   | (with_reducible refine LeO.ite ?_ ?_)
   | (with_reducible refine LeO.bind ?_ (fun _ => ?_))
   | exact ih0 _ _ _ _
   | exact LeO.none _
   | refine LeO.ite ?_ ?_
   | refine LeO.bind ?_ (fun _ => ?_)
theorem api_Node_83.mono : ∀ a0 a1 k, LeO (api_Node_83.f k a0 a1) (api_Node_83.f (k + 1) a0 a1) := by
 intro a0 a1 k
 have ih0 := api_Node_83.mono_l k
 unfold api_Node_83.f
 repeat' first
   | (with_reducible exact ih0 _ _ _ _)
   | (with_reducible exact LeO.refl _)
   | (with_reducible exact LeO.none _)
   | (with_reducible refine LeO.ite ?_ ?_)
   | (with_reducible refine LeO.bind ?_ (fun _ => ?_))
   | exact ih0 _ _ _ _
   | exact LeO.none _
   | refine LeO.ite ?_ ?_
   | refine LeO.bind ?_ (fun _ => ?_)
set_option maxHeartbeats 8000000 in
set_option maxRecDepth 100000 in
theorem api_Node_83.calls (k : Nat) (A0 : Option Addr) (c0 : Nat) (l0 : List (S69)) (A1 : Option Addr) (c1 : Nat) (l1 : List (S69)) (r : Bool) (w : World) (hr0 : Kd.C k69 w A0 l0.length l0) (hc0 : l0.length ≤ c0) (hr1 : Kd.C k69 w A1 l1.length l1) (hc1 : l1.length ≤ c1) (h : api_Node_83.f k l0 l1 = some r) :
  Calls Try.prog 83 #[.slice A0 l0.length c0, .slice A1 l1.length c1] w fun e w' => e = .returned (.bool r) ∧ Drawn0 w w' := by
 have hu69 := Try.underlying69
 have HR0 := Aside0.mk hr0
 have HC0 := Aside0.mk hc0
 clear hr0 hc0
 have HR1 := Aside0.mk hr1
 have HC1 := Aside0.mk hc1
 clear hr1 hc1
 have H : (if (l0.length : Int) = (l1.length : Int) then (api_Node_83.l0 k l0 l1 (l0.length : Int) 0) else (some false)) = some r := h
 clear h
 by_cases c3 : (l0.length : Int) = (l1.length : Int)
 ·rw [if_pos c3] at H
  have c3b0 : ((l0.length : Int) == (l1.length : Int)) = true := beq_iff_eq.mpr c3
  have c3b1 : ((l0.length : Int) != (l1.length : Int)) = false := bne_eq_false_iff_eq.mpr c3
  have c3b2 : (l0.length == l1.length) = true := by first | simpa using c3 | (simp at c3 ⊢; omega)
  clear c3
  have H' := Aside0.mk H
  clear H
  go_enter Try.func83, Try.ntmps83
  go_wp2
  repeat (go_quiet (fail); try go_wp2)
  go_loopg [13] k (fun kq v13 w' => ∃ (x13_1 : Int), v13 = .int .i64 x13_1 ∧ Aside0 (api_Node_83.l0 kq l0 l1 (l0.length : Int) x13_1 = some r) ∧ Aside0 (kq ≤ k) ∧ Drawn0 w w')
  case atStart => exact ⟨(0), es_, H', ⟨Nat.le_refl _⟩, by repeat (first | exact Drawn0.refl _ | apply Drawn0.step)⟩
  case round =>
   clear H'
   try clear c3
   try clear c3b0
   try clear c3b1
   try clear c3b2
   obtain ⟨x13_1, rfl, HA, HK1, ⟨m1, rfl⟩⟩ := hrel
   cases gk with
   | zero => exact absurd HA.out (by simp [api_Node_83.l0])
   | succ k1 =>
    have H := HA.out
    clear HA
    simp only [api_Node_83.l0] at H
    by_cases c4 : x13_1 < (l0.length : Int)
    ·rw [if_pos c4] at H
     have c4b0 : decide (x13_1 < (l0.length : Int)) = true := decide_eq_true c4
     clear c4
     by_cases c5 : 0 ≤ x13_1
     ·rw [if_pos c5] at H
      have c5b0 : decide (0 ≤ x13_1) = true := decide_eq_true c5
      clear c5
      by_cases c6 : x13_1 < (l0.length : Int)
      ·rw [if_pos c6] at H
       have c6b0 : decide (x13_1 < (l0.length : Int)) = true := decide_eq_true c6
       clear c6
       by_cases c7 : x13_1 < (l1.length : Int)
       ·rw [if_pos c7] at H
        have c7b0 : decide (x13_1 < (l1.length : Int)) = true := decide_eq_true c7
        clear c7
        by_cases c8 : (!(((rd_T69 l0 x13_1).f0) == ((rd_T69 l1 x13_1).f0)) || (!(((rd_T69 l0 x13_1).f1) == ((rd_T69 l1 x13_1).f1)) || (!(((rd_T69 l0 x13_1).f2) == ((rd_T69 l1 x13_1).f2)) || (!(((rd_T69 l0 x13_1).f3) == ((rd_T69 l1 x13_1).f3)) || ((!(((rd_T69 l0 x13_1).f4.f0) == ((rd_T69 l1 x13_1).f4.f0)) || (!((((rd_T69 l0 x13_1).f4.f1).toList) == (((rd_T69 l1 x13_1).f4.f1).toList)) || (!((((rd_T69 l0 x13_1).f4.f2).toList) == (((rd_T69 l1 x13_1).f4.f2).toList)))))))))) = true
        ·rw [if_pos c8] at H
         have c8b0 : (!(((rd_T69 l0 x13_1).f0) == ((rd_T69 l1 x13_1).f0)) || (!(((rd_T69 l0 x13_1).f1) == ((rd_T69 l1 x13_1).f1)) || (!(((rd_T69 l0 x13_1).f2) == ((rd_T69 l1 x13_1).f2)) || (!(((rd_T69 l0 x13_1).f3) == ((rd_T69 l1 x13_1).f3)) || ((!(((rd_T69 l0 x13_1).f4.f0) == ((rd_T69 l1 x13_1).f4.f0)) || (!((((rd_T69 l0 x13_1).f4.f1).toList) == (((rd_T69 l1 x13_1).f4.f1).toList)) || (!((((rd_T69 l0 x13_1).f4.f2).toList) == (((rd_T69 l1 x13_1).f4.f2).toList)))))))))) = true := c8
         clear c8
         obtain rfl := Option.some.inj H
         have p275 : 0 ≤ (x13_1 : Int) := of_decide_eq_true as_
         have q275 : x13_1 < (l0.length : Int) := of_decide_eq_true as_
         obtain ⟨ad275, e275, hx275_0, hx275_1, hx275_2, hx275_3, hx275_4, hx275_5, hx275_6⟩ := at_T69 HR0.out x13_1 p275 q275
         cases e275
         replace p275 := eq_true p275
         replace q275 := eq_true q275
         have p276 : 0 ≤ (x13_1 : Int) := of_decide_eq_true as_
         have q276 : x13_1 < (l1.length : Int) := of_decide_eq_true as_
         obtain ⟨ad276, e276, hx276_0, hx276_1, hx276_2, hx276_3, hx276_4, hx276_5, hx276_6⟩ := at_T69 HR1.out x13_1 p276 q276
         cases e276
         replace p276 := eq_true p276
         replace q276 := eq_true q276
         go_wp2
         repeat (go_quiet (fail); try go_wp2)
         go_ret
         exact ⟨by first | rfl | (simp; done) | (simp [*]; done), by repeat (first | exact Drawn0.refl _ | apply Drawn0.step)⟩
        ·rw [if_neg c8] at H
         have c8b0 : (!(((rd_T69 l0 x13_1).f0) == ((rd_T69 l1 x13_1).f0)) || (!(((rd_T69 l0 x13_1).f1) == ((rd_T69 l1 x13_1).f1)) || (!(((rd_T69 l0 x13_1).f2) == ((rd_T69 l1 x13_1).f2)) || (!(((rd_T69 l0 x13_1).f3) == ((rd_T69 l1 x13_1).f3)) || ((!(((rd_T69 l0 x13_1).f4.f0) == ((rd_T69 l1 x13_1).f4.f0)) || (!((((rd_T69 l0 x13_1).f4.f1).toList) == (((rd_T69 l1 x13_1).f4.f1).toList)) || (!((((rd_T69 l0 x13_1).f4.f2).toList) == (((rd_T69 l1 x13_1).f4.f2).toList)))))))))) = false := by simpa using c8
         clear c8
         have H' := Aside0.mk H
         clear H
         have p275 : 0 ≤ (x13_1 : Int) := of_decide_eq_true as_
         have q275 : x13_1 < (l0.length : Int) := of_decide_eq_true as_
         obtain ⟨ad275, e275, hx275_0, hx275_1, hx275_2, hx275_3, hx275_4, hx275_5, hx275_6⟩ := at_T69 HR0.out x13_1 p275 q275
         cases e275
         replace p275 := eq_true p275
         replace q275 := eq_true q275
         have p276 : 0 ≤ (x13_1 : Int) := of_decide_eq_true as_
         have q276 : x13_1 < (l1.length : Int) := of_decide_eq_true as_
         obtain ⟨ad276, e276, hx276_0, hx276_1, hx276_2, hx276_3, hx276_4, hx276_5, hx276_6⟩ := at_T69 HR1.out x13_1 p276 q276
         cases e276
         replace p276 := eq_true p276
         replace q276 := eq_true q276
         go_wp2
         repeat (go_quiet (fail); try go_wp2)
         go_roundg k1
         case measure => have := HK1.out; omega
         case rel => exact ⟨(wrap64 (x13_1 + 1)), es_, H', ⟨by have := HK1.out; omega⟩, by repeat (first | exact Drawn0.refl _ | apply Drawn0.step)⟩
       ·rw [if_neg c7] at H
        exact absurd H (by simp)
      ·rw [if_neg c6] at H
       exact absurd H (by simp)
     ·rw [if_neg c5] at H
      exact absurd H (by simp)
    ·rw [if_neg c4] at H
     have c4b0 : decide (x13_1 < (l0.length : Int)) = false := decide_eq_false c4
     clear c4
     obtain rfl := Option.some.inj H
     go_wp2
     repeat (go_quiet (fail); try go_wp2)
     go_ret
     exact ⟨by first | rfl | (simp; done) | (simp [*]; done), by repeat (first | exact Drawn0.refl _ | apply Drawn0.step)⟩
 ·rw [if_neg c3] at H
  have c3b0 : ((l0.length : Int) == (l1.length : Int)) = false := beq_eq_false_iff_ne.mpr c3
  have c3b1 : ((l0.length : Int) != (l1.length : Int)) = true := bne_iff_ne.mpr c3
  have c3b2 : (l0.length == l1.length) = false := by first | simpa using c3 | (simp at c3 ⊢; omega)
  obtain rfl := Option.some.inj H
  go_enter Try.func83, Try.ntmps83
  go_wp2
  repeat (go_quiet (fail); try go_wp2)
  go_ret
  exact ⟨by first | rfl | (simp; done) | (simp [*]; done), by repeat (first | exact Drawn0.refl _ | apply Drawn0.step)⟩

/-! ### tree_Same: function 39 -/
def tree_Same.f (k : Nat) (l0_0 : List (S69)) (a0_1 : Int) (l1_0 : List (S69)) (a1_1 : Int) : Option (Bool) := if a0_1 = a1_1 then ((api_Node_83.f k l0_0 l1_0).bind fun t279 => (some t279)) else (some false)
theorem tree_Same.mono : ∀ a0 a1 a2 a3 k, LeO (tree_Same.f k a0 a1 a2 a3) (tree_Same.f (k + 1) a0 a1 a2 a3) := by
 intro a0 a1 a2 a3 k
 unfold tree_Same.f
 repeat' first
   | (with_reducible exact api_Node_83.mono _ _ _)
   | (with_reducible exact LeO.refl _)
   | (with_reducible exact LeO.none _)
   | (with_reducible refine LeO.ite ?_ ?_)
   | (with_reducible refine LeO.bind ?_ (fun _ => ?_))
   | exact api_Node_83.mono _ _ _
   | exact LeO.none _
   | refine LeO.ite ?_ ?_
   | refine LeO.bind ?_ (fun _ => ?_)
set_option maxHeartbeats 8000000 in
set_option maxRecDepth 100000 in
theorem tree_Same.calls (k : Nat) (A0_0 : Option Addr) (c0_0 : Nat) (l0_0 : List (S69)) (a0_1 : Int) (A1_0 : Option Addr) (c1_0 : Nat) (l1_0 : List (S69)) (a1_1 : Int) (r : Bool) (w : World) (hr0_0 : Kd.C k69 w A0_0 l0_0.length l0_0) (hc0_0 : l0_0.length ≤ c0_0) (hr1_0 : Kd.C k69 w A1_0 l1_0.length l1_0) (hc1_0 : l1_0.length ≤ c1_0) (h : tree_Same.f k l0_0 a0_1 l1_0 a1_1 = some r) :
  Calls Try.prog 39 #[.agg #[.slice A0_0 l0_0.length c0_0, .int .i64 a0_1], .agg #[.slice A1_0 l1_0.length c1_0, .int .i64 a1_1]] w fun e w' => e = .returned (.bool r) ∧ Below w.heap.size w w' := by
 have hu46 := Try.underlying46
 have HR0_0 := Aside0.mk hr0_0
 have HC0_0 := Aside0.mk hc0_0
 clear hr0_0 hc0_0
 have HR1_0 := Aside0.mk hr1_0
 have HC1_0 := Aside0.mk hc1_0
 clear hr1_0 hc1_0
 have HB := Aside0.mk (Below.refl w.heap.size w)
 have H : (if a0_1 = a1_1 then ((api_Node_83.f k l0_0 l1_0).bind fun t279 => (some t279)) else (some false)) = some r := h
 clear h
 by_cases c3 : a0_1 = a1_1
 ·rw [if_pos c3] at H
  have c3b0 : (a0_1 == a1_1) = true := beq_iff_eq.mpr c3
  have c3b1 : (a0_1 != a1_1) = false := bne_eq_false_iff_eq.mpr c3
  clear c3
  replace H := Option.bind_eq_some_iff.mp H
  obtain ⟨t279, A40, H⟩ := H
  replace H : (some t279) = some r := H
  have A4 := Aside0.mk A40
  clear A40
  obtain rfl := Option.some.inj H
  go_enter Try.func39, Try.ntmps39
  go_wp2_with (first | ((with_reducible refine gate_dst (N := 2) rfl ?_); refine be_ (N := 2) (cs := #[.slice A0_0 l0_0.length c0_0, .int .i64 a0_1]) (t := 46) (h := ?_); intro gb277 hg w5 hbox hb; have BK277 := Aside0.mk (hbox); have GW277 := gw_ HB hg; have GE277 := gw_ HB hg; replace HB := bs_ HB hb; clear hb hbox hg) | ((with_reducible refine gate_dst (N := 3) rfl ?_); refine be_ (N := 3) (cs := #[.slice A1_0 l1_0.length c1_0, .int .i64 a1_1]) (t := 46) (h := ?_); intro gb278 hg w6 hbox hb; have BK278 := Aside0.mk (hbox); have GW278 := gw_ HB hg; have GE278 := gw_ HB hg; have NB277_278 := ne_ BK277 hg; have NB278_277 := en_ BK277 hg; replace BK277 := bb_ BK277 hb; replace HB := bs_ HB hb; clear hb hbox hg; have hnb7 := NB277_278.out; have hnc7 := NB278_277.out; obtain ⟨hcz8_0, hcz8_1, hfz8_0, hfz8_1⟩ := bc2_ BK277; obtain ⟨hcz9_0, hcz9_1, hfz9_0, hfz9_1⟩ := bc2_ BK278) | (go_at_call 83; (with_reducible refine (api_Node_83.calls k _ _ l0_0 _ _ l1_0 t279 _ ?side1 ?side2 ?side3 ?side4 A4.out).mono ?_); (case side1 => exact cw_ (Kd.C_below HR0_0.out HB.out)); (case side2 => exact HC0_0.out); (case side3 => exact cw_ (Kd.C_below HR1_0.out HB.out)); (case side4 => exact HC1_0.out); rintro e w' ⟨rfl, ⟨nd, rfl⟩⟩))
  go_ret
  exact ⟨er_, hb_ HB⟩
 ·rw [if_neg c3] at H
  have c3b0 : (a0_1 == a1_1) = false := beq_eq_false_iff_ne.mpr c3
  have c3b1 : (a0_1 != a1_1) = true := bne_iff_ne.mpr c3
  obtain rfl := Option.some.inj H
  go_enter Try.func39, Try.ntmps39
  go_wp2_with (first | ((with_reducible refine gate_dst (N := 2) rfl ?_); refine be_ (N := 2) (cs := #[.slice A0_0 l0_0.length c0_0, .int .i64 a0_1]) (t := 46) (h := ?_); intro gb277 hg w10 hbox hb; have BK277 := Aside0.mk (hbox); have GW277 := gw_ HB hg; have GE277 := gw_ HB hg; replace HB := bs_ HB hb; clear hb hbox hg) | ((with_reducible refine gate_dst (N := 3) rfl ?_); refine be_ (N := 3) (cs := #[.slice A1_0 l1_0.length c1_0, .int .i64 a1_1]) (t := 46) (h := ?_); intro gb278 hg w11 hbox hb; have BK278 := Aside0.mk (hbox); have GW278 := gw_ HB hg; have GE278 := gw_ HB hg; have NB277_278 := ne_ BK277 hg; have NB278_277 := en_ BK277 hg; replace BK277 := bb_ BK277 hb; replace HB := bs_ HB hb; clear hb hbox hg; have hnb12 := NB277_278.out; have hnc12 := NB278_277.out; obtain ⟨hcz13_0, hcz13_1, hfz13_0, hfz13_1⟩ := bc2_ BK277; obtain ⟨hcz14_0, hcz14_1, hfz14_0, hfz14_1⟩ := bc2_ BK278))
  go_ret
  exact ⟨er_, hb_ HB⟩

/-! ### calamusref11_New: function 41 -/
def calamusref11_New.f  : Option ((List (S69)) × Int) := some ((([(⟨(-1), (-1), 0, 0, (⟨0, (⟨#[]⟩ : ByteArray), (⟨#[]⟩ : ByteArray)⟩ : S24)⟩ : S69)] : List (S69))), 0)
set_option maxHeartbeats 8000000 in
set_option maxRecDepth 100000 in
theorem calamusref11_New.calls  (r1 : List (S69)) (r2 : Int) (w : World) (h : calamusref11_New.f  = some (r1, r2)) :
  Calls Try.prog 41 #[] w fun e w' => ∃ v0_ : Value, e = .returned (.agg #[v0_, .int .i64 r2]) ∧ Kd.R k69 69 w' w.heap.size (fun _ => True) v0_ r1 ∧ Below w.heap.size w w' := by
 have hu46 := Try.underlying46
 have hu69 := Try.underlying69
 have HB := Aside0.mk (Below.refl w.heap.size w)
 have H : (some ((([(⟨(-1), (-1), 0, 0, (⟨0, (⟨#[]⟩ : ByteArray), (⟨#[]⟩ : ByteArray)⟩ : S24)⟩ : S69)] : List (S69))), 0)) = some (r1, r2) := h
 clear h
 obtain ⟨y281, hy281⟩ : ∃ y_ : List (S69), y_ = (([(⟨(-1), (-1), 0, 0, (⟨0, (⟨#[]⟩ : ByteArray), (⟨#[]⟩ : ByteArray)⟩ : S24)⟩ : S69)] : List (S69))) := ⟨_, rfl⟩
 replace H : (some (y281, 0)) = some (r1, r2) := th_ H hy281
 have Ny281 := Aside0.mk hy281
 clear hy281
 simp only [Option.some.injEq, Prod.mk.injEq] at H
 obtain ⟨rfl, rfl⟩ := H
 go_enter Try.func41, Try.ntmps41
 go_wp2_with (first | ((with_reducible refine gate_dst (N := 0) rfl ?_); refine be_ (N := 0) (cs := #[.slice none 0 0, .int .i64 0]) (t := 46) (h := ?_); intro gb280 hg w1 hbox hb; have BK280 := Aside0.mk (hbox); have GW280 := gw_ HB hg; have GE280 := gw_ HB hg; replace HB := bs_ HB hb; clear hb hbox hg) | ((with_reducible refine gate_dst (N := 2) rfl ?_); refine Kd.R_lit k69 _ 69 ?hg (N := 2) ?hd (xs := ([(⟨(-1), (-1), 0, 0, (⟨0, (⟨#[]⟩ : ByteArray), (⟨#[]⟩ : ByteArray)⟩ : S24)⟩ : S69)] : List (S69))) (inner := [.int .i64 (-1), .int .i64 (-1), .int .i64 0, .int .i64 0, .int .i64 0, .string (⟨#[]⟩ : ByteArray), .string (⟨#[]⟩ : ByteArray)]) (ok := fun _ => True) (okp := fun _ => True) ?hr ?hp (fun _ hk => hk) trivial (Below.refl _ _) (Nat.le_refl _) (by simp) ?_; (case hd => rfl); (case hg => rfl); (case hr => first | (go_simp; done) | (go_simp; rfl)); (case hp => exact (Reps.c7 (show Kd.M k69 _ _ _ (⟨(-1), (-1), 0, 0, (⟨0, (⟨#[]⟩ : ByteArray), (⟨#[]⟩ : ByteArray)⟩ : S24)⟩ : S69) [.int .i64 (-1), .int .i64 (-1), .int .i64 0, .int .i64 0, .int .i64 0, .string (⟨#[]⟩ : ByteArray), .string (⟨#[]⟩ : ByteArray)] from (k69_mkM _ _ _ (⟨(-1), (-1), 0, 0, (⟨0, (⟨#[]⟩ : ByteArray), (⟨#[]⟩ : ByteArray)⟩ : S24)⟩ : S69) )) (Reps.none _ _))); intro v282 w2 ho3 hb hg_ hnew_; clear hg_ hnew_; (first | rw [← Ny281.out] at ho3 | (simp only [Int.reduceToNat] at ho3; rw [← Ny281.out] at ho3)); have HO283 := Aside0.mk (Kd.R_lower ho3 (below_size (hb_ HB))); replace BK280 := bb_ BK280 hb; replace HB := bs_ HB hb; clear hb ho3; obtain ⟨Ao4, co4, eo4⟩ := Kd.R_slice HO283.out; subst eo4; obtain ⟨hcz5_0, hcz5_1, hfz5_0, hfz5_1⟩ := bc2_ BK280))
 refine bodyPost_ret (results_cell_row rfl _ _ gb280 46 #[.slice Ao4 y281.length co4, .int .i64 0] (0, 0) _ rfl (bp_ BK280.out) Try.underlying46 rfl (by kernel_rfl)) rfl ?_
 exact ⟨_, er_, by (with_reducible repeat (first | apply Kd.R_alloc | apply Kd.R_drewN | apply Kd.R_drew)); exact Kd.R_mono (rf_ (Kd.R_types HO283.out BK280.out (by decide)) (fun _ hk => hk.2)) (fun _ hk => trivial), hb_ HB⟩

end Go.Proofs.Ytkiokimpblimcaa.PTreeAdds
