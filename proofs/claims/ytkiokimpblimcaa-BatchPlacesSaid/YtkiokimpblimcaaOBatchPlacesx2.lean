/- Of the law calamus/calamuslaw09.BatchPlaces: each function as a plain Lean function, with a proof that the call comes to it; the row. By wip/tpl/own_print.py. Conditions: none but the row's own. -/
import Derived.Test.YtkiokimpblimcaaOBatchPlacesx0
namespace Go.Proofs.Ytkiokimpblimcaa.PBatchPlaces
open Go.RowKit Go.Proofs.YtkiokimpblimcaaW.PrintWords Go.Proofs.YtkiokimpblimcaaW.PrintLast Go.Proofs.YtkiokimpblimcaaW.PrintMore
attribute [local go_sem] max2_int min2_int max_two min_two max_three min_three max_four min_four   -- for this text's walks alone
set_option linter.unusedVariables false
set_option linter.unusedSimpArgs false

/-! ### calamuslaw09_short: function 29 -/
mutual
def calamuslaw09_short.l0 : Nat → List (S24) → Int → Int → Option (Bool)
 | 0, _, _, _ => none
 | k + 1, x1, x5, x6 => if x6 < (x1.length : Int) then (calamuslaw09_short.j1 k x1 x5 x6 (decide (x6 < 31))) else (calamuslaw09_short.j1 k x1 x5 x6 false)
def calamuslaw09_short.j1 : Nat → List (S24) → Int → Int → Bool → Option (Bool)
 | 0, _, _, _, _ => none
 | k + 1, x1, x5, x6, x16 => if x16 = true then (if 0 ≤ x6 then (if x6 < (x1.length : Int) then (if ((rd_T24 x1 x6).f0) < (-1099511627776) then (some false) else (if ((rd_T24 x1 x6).f0) > 1099511627776 then (some false) else (calamuslaw09_short.l0 k x1 (wrap64 (x5 + (wrap64 ((((rd_T24 x1 x6).f1).size : Int) + (((rd_T24 x1 x6).f2).size : Int))))) (wrap64 (x6 + 1))))) else (none)) else (none)) else (if (x1.length : Int) ≤ 30 then (some (decide (x5 ≤ 9000))) else (some false))
end
def calamuslaw09_short.f (k : Nat) (a0 : ByteArray) (l1 : List (S24)) : Option (Bool) := calamuslaw09_short.l0 k l1 (a0.size : Int) 0
theorem calamuslaw09_short.mono_l : ∀ k, (∀ y0 y1 y2, LeO (calamuslaw09_short.l0 k y0 y1 y2) (calamuslaw09_short.l0 (k + 1) y0 y1 y2)) ∧ (∀ y0 y1 y2 y3, LeO (calamuslaw09_short.j1 k y0 y1 y2 y3) (calamuslaw09_short.j1 (k + 1) y0 y1 y2 y3))
 | 0 => ⟨fun _ _ _ r h => by simp [calamuslaw09_short.l0] at h, fun _ _ _ _ r h => by simp [calamuslaw09_short.j1] at h⟩
 | k + 1 => by
  obtain ⟨ih0, ih1⟩ := calamuslaw09_short.mono_l k
  refine ⟨?_, ?_⟩
  ·intro y0 y1 y2
   unfold calamuslaw09_short.l0
   repeat' first
   | (with_reducible exact ih0 _ _ _)
   | (with_reducible exact ih1 _ _ _ _)
   | (with_reducible exact LeO.refl _)
   | (with_reducible exact LeO.none _)
   | (with_reducible refine LeO.ite ?_ ?_)
   | (with_reducible refine LeO.bind ?_ (fun _ => ?_))
   | exact ih0 _ _ _
   | exact ih1 _ _ _ _
   | exact LeO.none _
   | refine LeO.ite ?_ ?_
   | refine LeO.bind ?_ (fun _ => ?_)
  ·intro y0 y1 y2 y3
   unfold calamuslaw09_short.j1
   repeat' first
   | (with_reducible exact ih0 _ _ _)
   | (with_reducible exact ih1 _ _ _ _)
   | (with_reducible exact LeO.refl _)
   | (with_reducible exact LeO.none _)
   | (with_reducible refine LeO.ite ?_ ?_)
   | (with_reducible refine LeO.bind ?_ (fun _ => ?_))
   | exact ih0 _ _ _
   | exact ih1 _ _ _ _
   | exact LeO.none _
   | refine LeO.ite ?_ ?_
   | refine LeO.bind ?_ (fun _ => ?_)
theorem calamuslaw09_short.mono : ∀ a0 a1 k, LeO (calamuslaw09_short.f k a0 a1) (calamuslaw09_short.f (k + 1) a0 a1) := by
 intro a0 a1 k
 obtain ⟨ih0, ih1⟩ := calamuslaw09_short.mono_l k
 unfold calamuslaw09_short.f
 repeat' first
   | (with_reducible exact ih0 _ _ _)
   | (with_reducible exact ih1 _ _ _ _)
   | (with_reducible exact LeO.refl _)
   | (with_reducible exact LeO.none _)
   | (with_reducible refine LeO.ite ?_ ?_)
   | (with_reducible refine LeO.bind ?_ (fun _ => ?_))
   | exact ih0 _ _ _
   | exact ih1 _ _ _ _
   | exact LeO.none _
   | refine LeO.ite ?_ ?_
   | refine LeO.bind ?_ (fun _ => ?_)
set_option maxHeartbeats 8000000 in
set_option maxRecDepth 100000 in
theorem calamuslaw09_short.calls (k : Nat) (a0 : ByteArray) (A1 : Option Addr) (c1 : Nat) (l1 : List (S24)) (r : Bool) (w : World) (hr1 : Kd.C k24 w A1 l1.length l1) (hc1 : l1.length ≤ c1) (h : calamuslaw09_short.f k a0 l1 = some r) :
  Calls Try.prog 29 #[.string a0, .slice A1 l1.length c1] w fun e w' => e = .returned (.bool r) ∧ Drawn0 w w' := by
 have HR1 := Aside0.mk hr1
 have HC1 := Aside0.mk hc1
 clear hr1 hc1
 have H : (calamuslaw09_short.l0 k l1 (a0.size : Int) 0) = some r := h
 clear h
 have H' := Aside0.mk H
 clear H
 go_enter Try.func29, Try.ntmps29
 go_wp2
 repeat (go_quiet (fail); try go_wp2)
 go_loopg [5, 6] k (fun kq v5 v6 w' => ∃ (x5_1 : Int) (x6_1 : Int), v5 = .int .i64 x5_1 ∧ v6 = .int .i64 x6_1 ∧ Aside0 (calamuslaw09_short.l0 kq l1 x5_1 x6_1 = some r) ∧ Aside0 (kq ≤ k) ∧ Drawn0 w w')
 case atStart => exact ⟨((a0.size : Int)), (0), es_, es_, H', ⟨Nat.le_refl _⟩, by repeat (first | exact Drawn0.refl _ | apply Drawn0.step)⟩
 case round =>
  clear H'
  obtain ⟨x5_1, x6_1, rfl, rfl, HA, HK1, ⟨m1, rfl⟩⟩ := hrel
  cases gk with
  | zero => exact absurd HA.out (by simp [calamuslaw09_short.l0])
  | succ k1 =>
   have H := HA.out
   clear HA
   simp only [calamuslaw09_short.l0] at H
   have HC3 := Aside0.mk H
   clear H
   go_upto_region 3 with (fail)
   repeat (go_quiet (fail); go_upto_region 3 with (fail))
   go_cut [16] (fun v16 wc => ∃ (kq : Nat) (x16_2 : Bool), v16 = .bool x16_2 ∧ Aside0 (calamuslaw09_short.j1 kq l1 x5_1 x6_1 x16_2 = some r) ∧ Aside0 (kq ≤ k1) ∧ Drawn0 w wc)
   case first =>
    have H := HC3.out
    clear HC3
    by_cases c4 : x6_1 < (l1.length : Int)
    ·rw [if_pos c4] at H
     have c4b0 : decide (x6_1 < (l1.length : Int)) = true := decide_eq_true c4
     clear c4
     (first | rw [c4b0] | (simp only [i64_w, i32_w]; rw [c4b0]) | skip)
     have H' := Aside0.mk H
     clear H
     go_wp2
     repeat (go_quiet (fail); try go_wp2)
     go_meet
     case rel => exact ⟨_, (decide (x6_1 < 31)), es_, H', ⟨by have := HK1.out; first | omega | exact Nat.le_refl _⟩, by repeat (first | exact Drawn0.refl _ | apply Drawn0.step)⟩
    ·rw [if_neg c4] at H
     have c4b0 : decide (x6_1 < (l1.length : Int)) = false := decide_eq_false c4
     clear c4
     (first | rw [c4b0] | (simp only [i64_w, i32_w]; rw [c4b0]) | skip)
     have H' := Aside0.mk H
     clear H
     go_wp2
     repeat (go_quiet (fail); try go_wp2)
     go_meet
     case rel => exact ⟨_, (false), es_, H', ⟨by have := HK1.out; first | omega | exact Nat.le_refl _⟩, by repeat (first | exact Drawn0.refl _ | apply Drawn0.step)⟩
   case rest =>
    clear HC3
    obtain ⟨kq, x16_2, rfl, HA, HJ2, ⟨mc2, rfl⟩⟩ := hcut
    cases kq with
    | zero => exact absurd HA.out (by simp [calamuslaw09_short.j1])
    | succ kj2 =>
     have H := HA.out
     clear HA
     simp only [calamuslaw09_short.j1] at H
     by_cases c5 : x16_2 = true
     ·subst c5
      have H1 : (if 0 ≤ x6_1 then (if x6_1 < (l1.length : Int) then (if ((rd_T24 l1 x6_1).f0) < (-1099511627776) then (some false) else (if ((rd_T24 l1 x6_1).f0) > 1099511627776 then (some false) else (calamuslaw09_short.l0 kj2 l1 (wrap64 (x5_1 + (wrap64 ((((rd_T24 l1 x6_1).f1).size : Int) + (((rd_T24 l1 x6_1).f2).size : Int))))) (wrap64 (x6_1 + 1))))) else (none)) else (none)) = some r := by rw [if_pos rfl] at H; exact H
      clear H
      have H := H1
      clear H1
      by_cases c6 : 0 ≤ x6_1
      ·rw [if_pos c6] at H
       have c6b0 : decide (0 ≤ x6_1) = true := decide_eq_true c6
       clear c6
       by_cases c7 : x6_1 < (l1.length : Int)
       ·rw [if_pos c7] at H
        have c7b0 : decide (x6_1 < (l1.length : Int)) = true := decide_eq_true c7
        clear c7
        by_cases c8 : ((rd_T24 l1 x6_1).f0) < (-1099511627776)
        ·rw [if_pos c8] at H
         have c8b0 : decide (((rd_T24 l1 x6_1).f0) < (-1099511627776)) = true := decide_eq_true c8
         clear c8
         obtain rfl := Option.some.inj H
         have p101 : 0 ≤ (x6_1 : Int) := of_decide_eq_true as_
         have q101 : x6_1 < (l1.length : Int) := of_decide_eq_true as_
         obtain ⟨ad101, e101, hx101_0, hx101_1, hx101_2⟩ := at_T24 HR1.out x6_1 p101 q101
         cases e101
         replace p101 := eq_true p101
         replace q101 := eq_true q101
         have p102 : 0 ≤ (x6_1 : Int) := of_decide_eq_true as_
         have q102 : x6_1 < (l1.length : Int) := of_decide_eq_true as_
         obtain ⟨ad102, e102, hx102_0, hx102_1, hx102_2⟩ := at_T24 HR1.out x6_1 p102 q102
         obtain rfl : ad101 = ad102 := (by injection e102)
         replace p102 := eq_true p102
         replace q102 := eq_true q102
         have p103 : 0 ≤ (x6_1 : Int) := of_decide_eq_true as_
         have q103 : x6_1 < (l1.length : Int) := of_decide_eq_true as_
         obtain ⟨ad103, e103, hx103_0, hx103_1, hx103_2⟩ := at_T24 HR1.out x6_1 p103 q103
         obtain rfl : ad101 = ad103 := (by injection e103)
         replace p103 := eq_true p103
         replace q103 := eq_true q103
         go_wp2
         repeat (go_quiet (fail); try go_wp2)
         go_ret
         exact ⟨by first | rfl | (simp; done) | (simp [*]; done), by repeat (first | exact Drawn0.refl _ | apply Drawn0.step)⟩
        ·rw [if_neg c8] at H
         have c8b0 : decide (((rd_T24 l1 x6_1).f0) < (-1099511627776)) = false := decide_eq_false c8
         clear c8
         by_cases c9 : ((rd_T24 l1 x6_1).f0) > 1099511627776
         ·rw [if_pos c9] at H
          have c9b0 : decide (1099511627776 < ((rd_T24 l1 x6_1).f0)) = true := decide_eq_true c9
          clear c9
          obtain rfl := Option.some.inj H
          have p101 : 0 ≤ (x6_1 : Int) := of_decide_eq_true as_
          have q101 : x6_1 < (l1.length : Int) := of_decide_eq_true as_
          obtain ⟨ad101, e101, hx101_0, hx101_1, hx101_2⟩ := at_T24 HR1.out x6_1 p101 q101
          cases e101
          replace p101 := eq_true p101
          replace q101 := eq_true q101
          have p102 : 0 ≤ (x6_1 : Int) := of_decide_eq_true as_
          have q102 : x6_1 < (l1.length : Int) := of_decide_eq_true as_
          obtain ⟨ad102, e102, hx102_0, hx102_1, hx102_2⟩ := at_T24 HR1.out x6_1 p102 q102
          obtain rfl : ad101 = ad102 := (by injection e102)
          replace p102 := eq_true p102
          replace q102 := eq_true q102
          have p103 : 0 ≤ (x6_1 : Int) := of_decide_eq_true as_
          have q103 : x6_1 < (l1.length : Int) := of_decide_eq_true as_
          obtain ⟨ad103, e103, hx103_0, hx103_1, hx103_2⟩ := at_T24 HR1.out x6_1 p103 q103
          obtain rfl : ad101 = ad103 := (by injection e103)
          replace p103 := eq_true p103
          replace q103 := eq_true q103
          have p104 : 0 ≤ (x6_1 : Int) := of_decide_eq_true as_
          have q104 : x6_1 < (l1.length : Int) := of_decide_eq_true as_
          obtain ⟨ad104, e104, hx104_0, hx104_1, hx104_2⟩ := at_T24 HR1.out x6_1 p104 q104
          obtain rfl : ad101 = ad104 := (by injection e104)
          replace p104 := eq_true p104
          replace q104 := eq_true q104
          go_wp2
          repeat (go_quiet (fail); try go_wp2)
          go_ret
          exact ⟨by first | rfl | (simp; done) | (simp [*]; done), by repeat (first | exact Drawn0.refl _ | apply Drawn0.step)⟩
         ·rw [if_neg c9] at H
          have c9b0 : decide (1099511627776 < ((rd_T24 l1 x6_1).f0)) = false := decide_eq_false c9
          clear c9
          have H' := Aside0.mk H
          clear H
          have p101 : 0 ≤ (x6_1 : Int) := of_decide_eq_true as_
          have q101 : x6_1 < (l1.length : Int) := of_decide_eq_true as_
          obtain ⟨ad101, e101, hx101_0, hx101_1, hx101_2⟩ := at_T24 HR1.out x6_1 p101 q101
          cases e101
          replace p101 := eq_true p101
          replace q101 := eq_true q101
          have p102 : 0 ≤ (x6_1 : Int) := of_decide_eq_true as_
          have q102 : x6_1 < (l1.length : Int) := of_decide_eq_true as_
          obtain ⟨ad102, e102, hx102_0, hx102_1, hx102_2⟩ := at_T24 HR1.out x6_1 p102 q102
          obtain rfl : ad101 = ad102 := (by injection e102)
          replace p102 := eq_true p102
          replace q102 := eq_true q102
          have p103 : 0 ≤ (x6_1 : Int) := of_decide_eq_true as_
          have q103 : x6_1 < (l1.length : Int) := of_decide_eq_true as_
          obtain ⟨ad103, e103, hx103_0, hx103_1, hx103_2⟩ := at_T24 HR1.out x6_1 p103 q103
          obtain rfl : ad101 = ad103 := (by injection e103)
          replace p103 := eq_true p103
          replace q103 := eq_true q103
          have p104 : 0 ≤ (x6_1 : Int) := of_decide_eq_true as_
          have q104 : x6_1 < (l1.length : Int) := of_decide_eq_true as_
          obtain ⟨ad104, e104, hx104_0, hx104_1, hx104_2⟩ := at_T24 HR1.out x6_1 p104 q104
          obtain rfl : ad101 = ad104 := (by injection e104)
          replace p104 := eq_true p104
          replace q104 := eq_true q104
          go_wp2
          repeat (go_quiet (fail); try go_wp2)
          go_roundg kj2
          case measure => have := HK1.out; have := HJ2.out; omega
          case rel => exact ⟨(wrap64 (x5_1 + (wrap64 ((((rd_T24 l1 x6_1).f1).size : Int) + (((rd_T24 l1 x6_1).f2).size : Int))))), (wrap64 (x6_1 + 1)), es_, es_, H', ⟨by have := HK1.out; have := HJ2.out; omega⟩, by repeat (first | exact Drawn0.refl _ | apply Drawn0.step)⟩
       ·rw [if_neg c7] at H
        exact absurd H (by simp)
      ·rw [if_neg c6] at H
       exact absurd H (by simp)
     ·replace c5 := Bool.eq_false_iff.mpr c5
      subst c5
      have H1 : (if (l1.length : Int) ≤ 30 then (some (decide (x5_1 ≤ 9000))) else (some false)) = some r := by rw [if_neg (show ¬ (false = true) by decide)] at H; exact H
      clear H
      have H := H1
      clear H1
      by_cases c10 : (l1.length : Int) ≤ 30
      ·rw [if_pos c10] at H
       have c10b0 : decide ((l1.length : Int) ≤ 30) = true := decide_eq_true c10
       have c10b1 : decide (l1.length ≤ 30) = true := decide_eq_true (by omega)
       clear c10
       obtain rfl := Option.some.inj H
       go_wp2
       repeat (go_quiet (fail); try go_wp2)
       go_ret
       exact ⟨by first | rfl | (simp; done) | (simp [*]; done), by repeat (first | exact Drawn0.refl _ | apply Drawn0.step)⟩
      ·rw [if_neg c10] at H
       have c10b0 : decide ((l1.length : Int) ≤ 30) = false := decide_eq_false c10
       have c10b1 : decide (l1.length ≤ 30) = false := decide_eq_false (by omega)
       clear c10
       obtain rfl := Option.some.inj H
       go_wp2
       repeat (go_quiet (fail); try go_wp2)
       go_ret
       exact ⟨by first | rfl | (simp; done) | (simp [*]; done), by repeat (first | exact Drawn0.refl _ | apply Drawn0.step)⟩

/-! ### utf_first: function 99, by hand (utf.first.lean) -/
def utf_first.f (a0 : Int) : Option (Int × Int × Int) := if a0 < 128 then (some (1, 0, 0)) else (if a0 < 194 then (some (0, 0, 0)) else (if a0 < 224 then (some (2, 128, 191)) else (if a0 = 224 then (some (3, 160, 191)) else (if a0 = 237 then (some (3, 128, 159)) else (if a0 < 240 then (some (3, 128, 191)) else (if a0 = 240 then (some (4, 144, 191)) else (if a0 < 244 then (some (4, 128, 191)) else (if a0 = 244 then (some (4, 128, 143)) else (some (0, 0, 0))))))))))
set_option maxHeartbeats 4000000 in
set_option maxRecDepth 100000 in
theorem utf_first.calls (a0 : Int) (r1 : Int) (r2 : Int) (r3 : Int) (w : World) (h : utf_first.f a0 = some (r1, r2, r3)) :
  Calls Try.prog 99 #[.int .u8 a0] w fun e w' => e = .returned (.agg #[.int .i64 r1, .int .u8 r2, .int .u8 r3]) ∧ Below w.heap.size w w' := by
 unfold utf_first.f at h
 by_cases c1 : a0 < 128
 ·rw [if_pos c1] at h
  have d1 : decide (a0 < 128) = true := decide_eq_true c1
  clear c1
  simp only [Option.some.injEq, Prod.mk.injEq] at h
  obtain ⟨rfl, rfl, rfl⟩ := h
  go_enter Try.func99, Try.ntmps99
  go_wp2
  exact bodyPost_ret (v := .agg #[.int .i64 1, .int .u8 0, .int .u8 0]) (by simp [results, Try.results99, go_sem]) rfl ⟨rfl, ((Below.refl _ _).alloc (Nat.le_refl _) _).alloc (by simp) _⟩
 rw [if_neg c1] at h
 have d1 : decide (a0 < 128) = false := decide_eq_false c1
 clear c1
 by_cases c2 : a0 < 194
 ·rw [if_pos c2] at h
  have d2 : decide (a0 < 194) = true := decide_eq_true c2
  clear c2
  simp only [Option.some.injEq, Prod.mk.injEq] at h
  obtain ⟨rfl, rfl, rfl⟩ := h
  go_enter Try.func99, Try.ntmps99
  go_wp2
  exact bodyPost_ret (v := .agg #[.int .i64 0, .int .u8 0, .int .u8 0]) (by simp [results, Try.results99, go_sem]) rfl ⟨rfl, ((Below.refl _ _).alloc (Nat.le_refl _) _).alloc (by simp) _⟩
 rw [if_neg c2] at h
 have d2 : decide (a0 < 194) = false := decide_eq_false c2
 clear c2
 by_cases c3 : a0 < 224
 ·rw [if_pos c3] at h
  have d3 : decide (a0 < 224) = true := decide_eq_true c3
  clear c3
  simp only [Option.some.injEq, Prod.mk.injEq] at h
  obtain ⟨rfl, rfl, rfl⟩ := h
  go_enter Try.func99, Try.ntmps99
  go_wp2
  exact bodyPost_ret (v := .agg #[.int .i64 2, .int .u8 128, .int .u8 191]) (by simp [results, Try.results99, go_sem]) rfl ⟨rfl, ((Below.refl _ _).alloc (Nat.le_refl _) _).alloc (by simp) _⟩
 rw [if_neg c3] at h
 have d3 : decide (a0 < 224) = false := decide_eq_false c3
 clear c3
 by_cases c4 : a0 = 224
 ·rw [if_pos c4] at h
  have d4 : (a0 == 224) = true := beq_iff_eq.mpr c4
  clear c4
  simp only [Option.some.injEq, Prod.mk.injEq] at h
  obtain ⟨rfl, rfl, rfl⟩ := h
  go_enter Try.func99, Try.ntmps99
  go_wp2
  exact bodyPost_ret (v := .agg #[.int .i64 3, .int .u8 160, .int .u8 191]) (by simp [results, Try.results99, go_sem]) rfl ⟨rfl, ((Below.refl _ _).alloc (Nat.le_refl _) _).alloc (by simp) _⟩
 rw [if_neg c4] at h
 have d4 : (a0 == 224) = false := beq_eq_false_iff_ne.mpr c4
 clear c4
 by_cases c5 : a0 = 237
 ·rw [if_pos c5] at h
  have d5 : (a0 == 237) = true := beq_iff_eq.mpr c5
  clear c5
  simp only [Option.some.injEq, Prod.mk.injEq] at h
  obtain ⟨rfl, rfl, rfl⟩ := h
  go_enter Try.func99, Try.ntmps99
  go_wp2
  exact bodyPost_ret (v := .agg #[.int .i64 3, .int .u8 128, .int .u8 159]) (by simp [results, Try.results99, go_sem]) rfl ⟨rfl, ((Below.refl _ _).alloc (Nat.le_refl _) _).alloc (by simp) _⟩
 rw [if_neg c5] at h
 have d5 : (a0 == 237) = false := beq_eq_false_iff_ne.mpr c5
 clear c5
 by_cases c6 : a0 < 240
 ·rw [if_pos c6] at h
  have d6 : decide (a0 < 240) = true := decide_eq_true c6
  clear c6
  simp only [Option.some.injEq, Prod.mk.injEq] at h
  obtain ⟨rfl, rfl, rfl⟩ := h
  go_enter Try.func99, Try.ntmps99
  go_wp2
  exact bodyPost_ret (v := .agg #[.int .i64 3, .int .u8 128, .int .u8 191]) (by simp [results, Try.results99, go_sem]) rfl ⟨rfl, ((Below.refl _ _).alloc (Nat.le_refl _) _).alloc (by simp) _⟩
 rw [if_neg c6] at h
 have d6 : decide (a0 < 240) = false := decide_eq_false c6
 clear c6
 by_cases c7 : a0 = 240
 ·rw [if_pos c7] at h
  have d7 : (a0 == 240) = true := beq_iff_eq.mpr c7
  clear c7
  simp only [Option.some.injEq, Prod.mk.injEq] at h
  obtain ⟨rfl, rfl, rfl⟩ := h
  go_enter Try.func99, Try.ntmps99
  go_wp2
  exact bodyPost_ret (v := .agg #[.int .i64 4, .int .u8 144, .int .u8 191]) (by simp [results, Try.results99, go_sem]) rfl ⟨rfl, ((Below.refl _ _).alloc (Nat.le_refl _) _).alloc (by simp) _⟩
 rw [if_neg c7] at h
 have d7 : (a0 == 240) = false := beq_eq_false_iff_ne.mpr c7
 clear c7
 by_cases c8 : a0 < 244
 ·rw [if_pos c8] at h
  have d8 : decide (a0 < 244) = true := decide_eq_true c8
  clear c8
  simp only [Option.some.injEq, Prod.mk.injEq] at h
  obtain ⟨rfl, rfl, rfl⟩ := h
  go_enter Try.func99, Try.ntmps99
  go_wp2
  exact bodyPost_ret (v := .agg #[.int .i64 4, .int .u8 128, .int .u8 191]) (by simp [results, Try.results99, go_sem]) rfl ⟨rfl, ((Below.refl _ _).alloc (Nat.le_refl _) _).alloc (by simp) _⟩
 rw [if_neg c8] at h
 have d8 : decide (a0 < 244) = false := decide_eq_false c8
 clear c8
 by_cases c9 : a0 = 244
 ·rw [if_pos c9] at h
  have d9 : (a0 == 244) = true := beq_iff_eq.mpr c9
  clear c9
  simp only [Option.some.injEq, Prod.mk.injEq] at h
  obtain ⟨rfl, rfl, rfl⟩ := h
  go_enter Try.func99, Try.ntmps99
  go_wp2
  exact bodyPost_ret (v := .agg #[.int .i64 4, .int .u8 128, .int .u8 143]) (by simp [results, Try.results99, go_sem]) rfl ⟨rfl, ((Below.refl _ _).alloc (Nat.le_refl _) _).alloc (by simp) _⟩
 rw [if_neg c9] at h
 have d9 : (a0 == 244) = false := beq_eq_false_iff_ne.mpr c9
 clear c9
 simp only [Option.some.injEq, Prod.mk.injEq] at h
 obtain ⟨rfl, rfl, rfl⟩ := h
 go_enter Try.func99, Try.ntmps99
 go_wp2
 exact bodyPost_ret (v := .agg #[.int .i64 0, .int .u8 0, .int .u8 0]) (by simp [results, Try.results99, go_sem]) rfl ⟨rfl, ((Below.refl _ _).alloc (Nat.le_refl _) _).alloc (by simp) _⟩

/-! ### utf_begins: function 93 -/
mutual
def utf_begins.l0 : Nat → ByteArray → Int → Int → Int → Int → Option (Int × Int)
 | 0, _, _, _, _, _ => none
 | k + 1, x0, x5, x109000, x109001, x109002 => if x5 < x109000 then (utf_begins.j1 k x0 x5 (decide (x5 < (x0.size : Int))) x109000 x109001 x109002) else (utf_begins.j1 k x0 x5 false x109000 x109001 x109002)
def utf_begins.j1 : Nat → ByteArray → Int → Bool → Int → Int → Int → Option (Int × Int)
 | 0, _, _, _, _, _, _ => none
 | k + 1, x0, x5, x22, x109000, x109001, x109002 => if x22 = true then (if x5 = 1 then (if 0 ≤ x5 then (if x5 < (x0.size : Int) then (if (bt x0 x5) < x109001 then (some (0, 0)) else (if (bt x0 x5) > x109002 then (some (0, 0)) else (utf_begins.l0 k x0 (wrap64 (x5 + 1)) x109000 x109001 x109002))) else (none)) else (none)) else (if 0 ≤ x5 then (if x5 < (x0.size : Int) then (if (bt x0 x5) < 128 then (some (0, 0)) else (if (bt x0 x5) > 191 then (some (0, 0)) else (utf_begins.l0 k x0 (wrap64 (x5 + 1)) x109000 x109001 x109002))) else (none)) else (none))) else (some (mn (x0.size : Int) x109000, x109000))
end
def utf_begins.f (k : Nat) (a0 : ByteArray) : Option (Int × Int) := if a0.toList = ([] : List UInt8) then (some (0, 0)) else (if 0 < (a0.size : Int) then ((utf_first.f (bt a0 0)).bind fun bt105 => (utf_begins.l0 k a0 1 bt105.1 bt105.2.1 bt105.2.2)) else (none))
theorem utf_begins.mono_l : ∀ k, (∀ y0 y1 y2 y3 y4, LeO (utf_begins.l0 k y0 y1 y2 y3 y4) (utf_begins.l0 (k + 1) y0 y1 y2 y3 y4)) ∧ (∀ y0 y1 y2 y3 y4 y5, LeO (utf_begins.j1 k y0 y1 y2 y3 y4 y5) (utf_begins.j1 (k + 1) y0 y1 y2 y3 y4 y5))
 | 0 => ⟨fun _ _ _ _ _ r h => by simp [utf_begins.l0] at h, fun _ _ _ _ _ _ r h => by simp [utf_begins.j1] at h⟩
 | k + 1 => by
  obtain ⟨ih0, ih1⟩ := utf_begins.mono_l k
  refine ⟨?_, ?_⟩
  ·intro y0 y1 y2 y3 y4
   unfold utf_begins.l0
   repeat' first
   | (with_reducible exact ih0 _ _ _ _ _)
   | (with_reducible exact ih1 _ _ _ _ _ _)
   | (with_reducible exact LeO.refl _)
   | (with_reducible exact LeO.none _)
   | (with_reducible refine LeO.ite ?_ ?_)
   | (with_reducible refine LeO.bind ?_ (fun _ => ?_))
   | exact ih0 _ _ _ _ _
   | exact ih1 _ _ _ _ _ _
   | exact LeO.none _
   | refine LeO.ite ?_ ?_
   | refine LeO.bind ?_ (fun _ => ?_)
  ·intro y0 y1 y2 y3 y4 y5
   unfold utf_begins.j1
   repeat' first
   | (with_reducible exact ih0 _ _ _ _ _)
   | (with_reducible exact ih1 _ _ _ _ _ _)
   | (with_reducible exact LeO.refl _)
   | (with_reducible exact LeO.none _)
   | (with_reducible refine LeO.ite ?_ ?_)
   | (with_reducible refine LeO.bind ?_ (fun _ => ?_))
   | exact ih0 _ _ _ _ _
   | exact ih1 _ _ _ _ _ _
   | exact LeO.none _
   | refine LeO.ite ?_ ?_
   | refine LeO.bind ?_ (fun _ => ?_)
theorem utf_begins.mono : ∀ a0 k, LeO (utf_begins.f k a0) (utf_begins.f (k + 1) a0) := by
 intro a0 k
 obtain ⟨ih0, ih1⟩ := utf_begins.mono_l k
 unfold utf_begins.f
 repeat' first
   | (with_reducible exact ih0 _ _ _ _ _)
   | (with_reducible exact ih1 _ _ _ _ _ _)
   | (with_reducible exact LeO.refl _)
   | (with_reducible exact LeO.none _)
   | (with_reducible refine LeO.ite ?_ ?_)
   | (with_reducible refine LeO.bind ?_ (fun _ => ?_))
   | exact ih0 _ _ _ _ _
   | exact ih1 _ _ _ _ _ _
   | exact LeO.none _
   | refine LeO.ite ?_ ?_
   | refine LeO.bind ?_ (fun _ => ?_)
set_option maxHeartbeats 8000000 in
set_option maxRecDepth 100000 in
theorem utf_begins.calls (k : Nat) (a0 : ByteArray) (r1 : Int) (r2 : Int) (w : World) (h : utf_begins.f k a0 = some (r1, r2)) :
  Calls Try.prog 93 #[.string a0] w fun e w' => e = .returned (.tuple #[.int .i64 r1, .int .i64 r2]) ∧ Below w.heap.size w w' := by
 have hu123 := Try.underlying123
 have HB := Aside0.mk (Below.refl w.heap.size w)
 have H : (if a0.toList = ([] : List UInt8) then (some (0, 0)) else (if 0 < (a0.size : Int) then ((utf_first.f (bt a0 0)).bind fun bt105 => (utf_begins.l0 k a0 1 bt105.1 bt105.2.1 bt105.2.2)) else (none))) = some (r1, r2) := h
 clear h
 by_cases c2 : a0.toList = ([] : List UInt8)
 ·rw [if_pos c2] at H
  have c2b0 : (a0.toList == ([] : List UInt8)) = true := beq_iff_eq.mpr c2
  have c2b1 : (a0.toList != ([] : List UInt8)) = false := bne_eq_false_iff_eq.mpr c2
  clear c2
  simp only [Option.some.injEq, Prod.mk.injEq] at H
  obtain ⟨rfl, rfl⟩ := H
  go_enter Try.func93, Try.ntmps93
  go_wp2
  repeat (go_quiet (fail); try go_wp2)
  go_ret2
  exact ⟨er_, hb_ HB⟩
 ·rw [if_neg c2] at H
  have c2b0 : (a0.toList == ([] : List UInt8)) = false := beq_eq_false_iff_ne.mpr c2
  have c2b1 : (a0.toList != ([] : List UInt8)) = true := bne_iff_ne.mpr c2
  by_cases c3 : 0 < (a0.size : Int)
  ·rw [if_pos c3] at H
   have c3b0 : decide (0 < (a0.size : Int)) = true := decide_eq_true c3
   have c3b1 : decide (0 < a0.size) = true := decide_eq_true (by omega)
   clear c3
   replace H := Option.bind_eq_some_iff.mp H
   obtain ⟨⟨t105, t106, t107⟩, A50, H⟩ := H
   replace H : (utf_begins.l0 k a0 1 t105 t106 t107) = some (r1, r2) := H
   have A5 := Aside0.mk A50
   clear A50
   have H' := Aside0.mk H
   clear H
   have p4 : 0 ≤ (0 : Int) := (by omega)
   have q4 : 0 < a0.size := (by have : (0 : Int) < (a0.size : Int) := of_decide_eq_true as_; omega)
   have hx4 : ∀ h : 0 < a0.size, ((a0[0]'h).toNat : Int) = bt a0 0 := bt_at a0 0
   clear p4
   have qi4 : (0 < (a0.size : Int)) = True := eq_true (of_decide_eq_true as_)
   replace q4 := eq_true q4
   go_enter Try.func93, Try.ntmps93
   go_wp2_with (first | (go_at_call 99; (with_reducible refine (utf_first.calls (bt a0 0) t105 t106 t107 _ A5.out).mono ?_); rintro e w6 ⟨rfl, hb⟩; replace HB := bs_ HB hb; (try clear hb); (try clear hb2); (try clear hk); (try clear hi)) | ((with_reducible refine gate_dst (N := 4) rfl ?_); (try (refine gate_guard (by rfl) ?_; dsimp only)); refine be_ (N := 4) (cs := #[.int .i64 0, .int .u8 0, .int .u8 0]) (t := 123) (h := ?_); intro gb108 hg w7 hbox hb; have BK108 := Aside0.mk (hbox); have GW108 := gw_ HB hg; have GE108 := gw_ HB hg; replace HB := bs_ HB hb; clear hb hbox hg; obtain ⟨hcz8_0, hcz8_1, hcz8_2, hfz8_0, hfz8_1, hfz8_2⟩ := bc3_ BK108))
   repeat (go_quiet (first | (go_at_call 99; (with_reducible refine (utf_first.calls (bt a0 0) t105 t106 t107 _ A5.out).mono ?_); rintro e w6 ⟨rfl, hb⟩; replace HB := bs_ HB hb; (try clear hb); (try clear hb2); (try clear hk); (try clear hi)) | ((with_reducible refine gate_dst (N := 4) rfl ?_); (try (refine gate_guard (by rfl) ?_; dsimp only)); refine be_ (N := 4) (cs := #[.int .i64 0, .int .u8 0, .int .u8 0]) (t := 123) (h := ?_); intro gb108 hg w7 hbox hb; have BK108 := Aside0.mk (hbox); have GW108 := gw_ HB hg; have GE108 := gw_ HB hg; replace HB := bs_ HB hb; clear hb hbox hg; obtain ⟨hcz8_0, hcz8_1, hcz8_2, hfz8_0, hfz8_1, hfz8_2⟩ := bc3_ BK108)); try go_wp2_with (first | (go_at_call 99; (with_reducible refine (utf_first.calls (bt a0 0) t105 t106 t107 _ A5.out).mono ?_); rintro e w6 ⟨rfl, hb⟩; replace HB := bs_ HB hb; (try clear hb); (try clear hb2); (try clear hk); (try clear hi)) | ((with_reducible refine gate_dst (N := 4) rfl ?_); (try (refine gate_guard (by rfl) ?_; dsimp only)); refine be_ (N := 4) (cs := #[.int .i64 0, .int .u8 0, .int .u8 0]) (t := 123) (h := ?_); intro gb108 hg w7 hbox hb; have BK108 := Aside0.mk (hbox); have GW108 := gw_ HB hg; have GE108 := gw_ HB hg; replace HB := bs_ HB hb; clear hb hbox hg; obtain ⟨hcz8_0, hcz8_1, hcz8_2, hfz8_0, hfz8_1, hfz8_2⟩ := bc3_ BK108)))
   go_loopg [5] k (fun kq v5 w' => ∃ (x5_1 : Int), v5 = .int .i64 x5_1 ∧ Aside0 (utf_begins.l0 kq a0 x5_1 t105 t106 t107 = some (r1, r2)) ∧ Aside0 (kq ≤ k) ∧ Aside0 (w'.heap[gb108]? = some (.cells #[.int .i64 t105, .int .u8 t106, .int .u8 t107] 123 (0, 0))) ∧ Aside0 (Below w.heap.size w w'))
   case atStart => exact ⟨(1), es_, H', ⟨Nat.le_refl _⟩, ⟨bp_ BK108.out⟩, ⟨hb_ HB⟩⟩
   case round =>
    clear H'
    try clear c2
    try clear c2b0
    try clear c2b1
    try clear c3
    try clear c3b0
    try clear c3b1
    try clear p4
    try clear q4
    try clear hx4
    try clear qi4
    try clear hcz8_0
    try clear hcz8_1
    try clear hcz8_2
    try clear hfz8_0
    try clear hfz8_1
    try clear hfz8_2
    try clear p4
    try clear q4
    obtain ⟨x5_1, rfl, HA, HK1, BK108, HB⟩ := hrel
    cases gk with
    | zero => exact absurd HA.out (by simp [utf_begins.l0])
    | succ k1 =>
     have H := HA.out
     clear HA
     simp only [utf_begins.l0] at H
     have HC9 := Aside0.mk H
     clear H
     go_upto_region 5 with (fail)
     repeat (go_quiet (fail); go_upto_region 5 with (fail))
     go_cut [22] (fun v22 wc => ∃ (kq : Nat) (x22_8 : Bool), v22 = .bool x22_8 ∧ Aside0 (utf_begins.j1 kq a0 x5_1 x22_8 t105 t106 t107 = some (r1, r2)) ∧ Aside0 (kq ≤ k1) ∧ Aside0 (wc.heap[gb108]? = some (.cells #[.int .i64 t105, .int .u8 t106, .int .u8 t107] 123 (0, 0))) ∧ Aside0 (Below w.heap.size w wc))
     case first =>
      have H := HC9.out
      clear HC9
      by_cases c10 : x5_1 < t105
      ·rw [if_pos c10] at H
       have c10b0 : decide (x5_1 < t105) = true := decide_eq_true c10
       clear c10
       (first | rw [c10b0] | (simp only [i64_w, i32_w]; rw [c10b0]) | skip)
       have H' := Aside0.mk H
       clear H
       obtain ⟨hcz11_0, hcz11_1, hcz11_2, hfz11_0, hfz11_1, hfz11_2⟩ := bc3_ BK108
       go_wp2
       repeat (go_quiet (fail); try go_wp2)
       go_meet
       case rel => exact ⟨_, (decide (x5_1 < (a0.size : Int))), es_, H', ⟨by have := HK1.out; first | omega | exact Nat.le_refl _⟩, ⟨bw_ BK108.out⟩, ⟨hb_ HB⟩⟩
      ·rw [if_neg c10] at H
       have c10b0 : decide (x5_1 < t105) = false := decide_eq_false c10
       clear c10
       (first | rw [c10b0] | (simp only [i64_w, i32_w]; rw [c10b0]) | skip)
       have H' := Aside0.mk H
       clear H
       obtain ⟨hcz12_0, hcz12_1, hcz12_2, hfz12_0, hfz12_1, hfz12_2⟩ := bc3_ BK108
       go_wp2
       repeat (go_quiet (fail); try go_wp2)
       go_meet
       case rel => exact ⟨_, (false), es_, H', ⟨by have := HK1.out; first | omega | exact Nat.le_refl _⟩, ⟨bw_ BK108.out⟩, ⟨hb_ HB⟩⟩
     case rest =>
      clear HC9
      try clear c2
      try clear c2b0
      try clear c2b1
      try clear c3
      try clear c3b0
      try clear c3b1
      try clear p4
      try clear q4
      try clear hx4
      try clear qi4
      try clear hcz8_0
      try clear hcz8_1
      try clear hcz8_2
      try clear hfz8_0
      try clear hfz8_1
      try clear hfz8_2
      try clear p4
      try clear q4
      obtain ⟨kq, x22_8, rfl, HA, HJ8, BK108, HB⟩ := hcut
      cases kq with
      | zero => exact absurd HA.out (by simp [utf_begins.j1])
      | succ kj8 =>
       have H := HA.out
       clear HA
       simp only [utf_begins.j1] at H
       by_cases c13 : x22_8 = true
       ·subst c13
        have H1 : (if x5_1 = 1 then (if 0 ≤ x5_1 then (if x5_1 < (a0.size : Int) then (if (bt a0 x5_1) < t106 then (some (0, 0)) else (if (bt a0 x5_1) > t107 then (some (0, 0)) else (utf_begins.l0 kj8 a0 (wrap64 (x5_1 + 1)) t105 t106 t107))) else (none)) else (none)) else (if 0 ≤ x5_1 then (if x5_1 < (a0.size : Int) then (if (bt a0 x5_1) < 128 then (some (0, 0)) else (if (bt a0 x5_1) > 191 then (some (0, 0)) else (utf_begins.l0 kj8 a0 (wrap64 (x5_1 + 1)) t105 t106 t107))) else (none)) else (none))) = some (r1, r2) := by rw [if_pos rfl] at H; exact H
        clear H
        have H := H1
        clear H1
        by_cases c14 : x5_1 = 1
        ·rw [if_pos c14] at H
         have c14b0 : (x5_1 == 1) = true := beq_iff_eq.mpr c14
         have c14b1 : (x5_1 != 1) = false := bne_eq_false_iff_eq.mpr c14
         clear c14
         by_cases c15 : 0 ≤ x5_1
         ·rw [if_pos c15] at H
          have c15b0 : decide (0 ≤ x5_1) = true := decide_eq_true c15
          clear c15
          by_cases c16 : x5_1 < (a0.size : Int)
          ·rw [if_pos c16] at H
           have c16b0 : decide (x5_1 < (a0.size : Int)) = true := decide_eq_true c16
           clear c16
           by_cases c18 : (bt a0 x5_1) < t106
           ·rw [if_pos c18] at H
            have c18b0 : decide ((bt a0 x5_1) < t106) = true := decide_eq_true c18
            clear c18
            simp only [Option.some.injEq, Prod.mk.injEq] at H
            obtain ⟨rfl, rfl⟩ := H
            obtain ⟨hcz19_0, hcz19_1, hcz19_2, hfz19_0, hfz19_1, hfz19_2⟩ := bc3_ BK108
            have p17 : 0 ≤ (x5_1 : Int) := of_decide_eq_true as_
            have q17 : x5_1 < (a0.size : Int) := of_decide_eq_true as_
            have hx17 := bt_at a0 x5_1
            replace p17 := eq_true p17
            replace q17 := eq_true q17
            go_wp2
            repeat (go_quiet (fail); try go_wp2)
            go_ret2
            exact ⟨er_, hb_ HB⟩
           ·rw [if_neg c18] at H
            have c18b0 : decide ((bt a0 x5_1) < t106) = false := decide_eq_false c18
            clear c18
            by_cases c21 : (bt a0 x5_1) > t107
            ·rw [if_pos c21] at H
             have c21b0 : decide (t107 < (bt a0 x5_1)) = true := decide_eq_true c21
             clear c21
             simp only [Option.some.injEq, Prod.mk.injEq] at H
             obtain ⟨rfl, rfl⟩ := H
             obtain ⟨hcz22_0, hcz22_1, hcz22_2, hfz22_0, hfz22_1, hfz22_2⟩ := bc3_ BK108
             have p17 : 0 ≤ (x5_1 : Int) := of_decide_eq_true as_
             have q17 : x5_1 < (a0.size : Int) := of_decide_eq_true as_
             have hx17 := bt_at a0 x5_1
             replace p17 := eq_true p17
             replace q17 := eq_true q17
             have p20 : 0 ≤ (x5_1 : Int) := of_decide_eq_true as_
             have q20 : x5_1 < (a0.size : Int) := of_decide_eq_true as_
             have hx20 := bt_at a0 x5_1
             replace p20 := eq_true p20
             replace q20 := eq_true q20
             go_wp2
             repeat (go_quiet (fail); try go_wp2)
             go_ret2
             exact ⟨er_, hb_ HB⟩
            ·rw [if_neg c21] at H
             have c21b0 : decide (t107 < (bt a0 x5_1)) = false := decide_eq_false c21
             clear c21
             have H' := Aside0.mk H
             clear H
             obtain ⟨hcz23_0, hcz23_1, hcz23_2, hfz23_0, hfz23_1, hfz23_2⟩ := bc3_ BK108
             have p17 : 0 ≤ (x5_1 : Int) := of_decide_eq_true as_
             have q17 : x5_1 < (a0.size : Int) := of_decide_eq_true as_
             have hx17 := bt_at a0 x5_1
             replace p17 := eq_true p17
             replace q17 := eq_true q17
             have p20 : 0 ≤ (x5_1 : Int) := of_decide_eq_true as_
             have q20 : x5_1 < (a0.size : Int) := of_decide_eq_true as_
             have hx20 := bt_at a0 x5_1
             replace p20 := eq_true p20
             replace q20 := eq_true q20
             go_wp2
             repeat (go_quiet (fail); try go_wp2)
             go_roundg kj8
             case measure => have := HK1.out; have := HJ8.out; omega
             case rel => exact ⟨(wrap64 (x5_1 + 1)), es_, H', ⟨by have := HK1.out; have := HJ8.out; omega⟩, ⟨bw_ BK108.out⟩, ⟨hb_ HB⟩⟩
          ·rw [if_neg c16] at H
           exact absurd H (by simp)
         ·rw [if_neg c15] at H
          exact absurd H (by simp)
        ·rw [if_neg c14] at H
         have c14b0 : (x5_1 == 1) = false := beq_eq_false_iff_ne.mpr c14
         have c14b1 : (x5_1 != 1) = true := bne_iff_ne.mpr c14
         by_cases c24 : 0 ≤ x5_1
         ·rw [if_pos c24] at H
          have c24b0 : decide (0 ≤ x5_1) = true := decide_eq_true c24
          clear c24
          by_cases c25 : x5_1 < (a0.size : Int)
          ·rw [if_pos c25] at H
           have c25b0 : decide (x5_1 < (a0.size : Int)) = true := decide_eq_true c25
           clear c25
           by_cases c27 : (bt a0 x5_1) < 128
           ·rw [if_pos c27] at H
            have c27b0 : decide ((bt a0 x5_1) < 128) = true := decide_eq_true c27
            clear c27
            simp only [Option.some.injEq, Prod.mk.injEq] at H
            obtain ⟨rfl, rfl⟩ := H
            have p26 : 0 ≤ (x5_1 : Int) := of_decide_eq_true as_
            have q26 : x5_1 < (a0.size : Int) := of_decide_eq_true as_
            have hx26 := bt_at a0 x5_1
            replace p26 := eq_true p26
            replace q26 := eq_true q26
            go_wp2
            repeat (go_quiet (fail); try go_wp2)
            go_ret2
            exact ⟨er_, hb_ HB⟩
           ·rw [if_neg c27] at H
            have c27b0 : decide ((bt a0 x5_1) < 128) = false := decide_eq_false c27
            clear c27
            by_cases c29 : (bt a0 x5_1) > 191
            ·rw [if_pos c29] at H
             have c29b0 : decide (191 < (bt a0 x5_1)) = true := decide_eq_true c29
             clear c29
             simp only [Option.some.injEq, Prod.mk.injEq] at H
             obtain ⟨rfl, rfl⟩ := H
             have p26 : 0 ≤ (x5_1 : Int) := of_decide_eq_true as_
             have q26 : x5_1 < (a0.size : Int) := of_decide_eq_true as_
             have hx26 := bt_at a0 x5_1
             replace p26 := eq_true p26
             replace q26 := eq_true q26
             have p28 : 0 ≤ (x5_1 : Int) := of_decide_eq_true as_
             have q28 : x5_1 < (a0.size : Int) := of_decide_eq_true as_
             have hx28 := bt_at a0 x5_1
             replace p28 := eq_true p28
             replace q28 := eq_true q28
             go_wp2
             repeat (go_quiet (fail); try go_wp2)
             go_ret2
             exact ⟨er_, hb_ HB⟩
            ·rw [if_neg c29] at H
             have c29b0 : decide (191 < (bt a0 x5_1)) = false := decide_eq_false c29
             clear c29
             have H' := Aside0.mk H
             clear H
             have p26 : 0 ≤ (x5_1 : Int) := of_decide_eq_true as_
             have q26 : x5_1 < (a0.size : Int) := of_decide_eq_true as_
             have hx26 := bt_at a0 x5_1
             replace p26 := eq_true p26
             replace q26 := eq_true q26
             have p28 : 0 ≤ (x5_1 : Int) := of_decide_eq_true as_
             have q28 : x5_1 < (a0.size : Int) := of_decide_eq_true as_
             have hx28 := bt_at a0 x5_1
             replace p28 := eq_true p28
             replace q28 := eq_true q28
             go_wp2
             repeat (go_quiet (fail); try go_wp2)
             go_roundg kj8
             case measure => have := HK1.out; have := HJ8.out; omega
             case rel => exact ⟨(wrap64 (x5_1 + 1)), es_, H', ⟨by have := HK1.out; have := HJ8.out; omega⟩, ⟨bw_ BK108.out⟩, ⟨hb_ HB⟩⟩
          ·rw [if_neg c25] at H
           exact absurd H (by simp)
         ·rw [if_neg c24] at H
          exact absurd H (by simp)
       ·replace c13 := Bool.eq_false_iff.mpr c13
        subst c13
        have H1 : (some (mn (a0.size : Int) t105, t105)) = some (r1, r2) := by rw [if_neg (show ¬ (false = true) by decide)] at H; exact H
        clear H
        have H := H1
        clear H1
        obtain ⟨ji30, hji30⟩ : ∃ j_ : Int, (mn (a0.size : Int) t105) = j_ := ⟨_, rfl⟩
        replace H : (some (ji30, t105)) = some (r1, r2) := by first | (rw [hji30] at H; exact H) | (simp only [hji30] at H ⊢; exact H)
        have hji30_ : (if t105 < (a0.size : Int) then t105 else (a0.size : Int)) = ji30 := hji30
        simp only [Option.some.injEq, Prod.mk.injEq] at H
        obtain ⟨rfl, rfl⟩ := H
        obtain ⟨hcz31_0, hcz31_1, hcz31_2, hfz31_0, hfz31_1, hfz31_2⟩ := bc3_ BK108
        go_wp2
        repeat (go_quiet (fail); try go_wp2)
        go_ret2
        exact ⟨by first | rfl | (simp [errW_none, errW_some] <;> rfl) | (simp only [← hji30]; first | rfl | (simp [errW_none, errW_some] <;> rfl)) | (simp [*, errW_none, errW_some] <;> rfl), hb_ HB⟩
  ·rw [if_neg c3] at H
   exact absurd H (by simp)

/-! ### utf_size: function 68 -/
def utf_size.f (k : Nat) (a0 : ByteArray) : Option (Int) := (utf_begins.f k a0).bind fun bt109 => (if bt109.1 < bt109.2 then (some 0) else (some bt109.2))
theorem utf_size.mono : ∀ a0 k, LeO (utf_size.f k a0) (utf_size.f (k + 1) a0) := by
 intro a0 k
 unfold utf_size.f
 repeat' first
   | (with_reducible exact utf_begins.mono _ _)
   | (with_reducible exact LeO.refl _)
   | (with_reducible exact LeO.none _)
   | (with_reducible refine LeO.ite ?_ ?_)
   | (with_reducible refine LeO.bind ?_ (fun _ => ?_))
   | exact utf_begins.mono _ _
   | exact LeO.none _
   | refine LeO.ite ?_ ?_
   | refine LeO.bind ?_ (fun _ => ?_)
set_option maxHeartbeats 8000000 in
set_option maxRecDepth 100000 in
theorem utf_size.calls (k : Nat) (a0 : ByteArray) (r : Int) (w : World) (h : utf_size.f k a0 = some r) :
  Calls Try.prog 68 #[.string a0] w fun e w' => e = .returned (.int .i64 r) ∧ Below w.heap.size w w' := by
 have HB := Aside0.mk (Below.refl w.heap.size w)
 have H : ((utf_begins.f k a0).bind fun bt109 => (if bt109.1 < bt109.2 then (some 0) else (some bt109.2))) = some r := h
 clear h
 replace H := Option.bind_eq_some_iff.mp H
 obtain ⟨⟨t109, t110⟩, A20, H⟩ := H
 replace H : (if t109 < t110 then (some 0) else (some t110)) = some r := H
 have A2 := Aside0.mk A20
 clear A20
 by_cases c3 : t109 < t110
 ·rw [if_pos c3] at H
  have c3b0 : decide (t109 < t110) = true := decide_eq_true c3
  clear c3
  obtain rfl := Option.some.inj H
  go_enter Try.func68, Try.ntmps68
  go_wp2_with (first | ((with_reducible refine gate_callee (f := 93) rfl ?_); refine ge_ (some 7) rfl rfl Try.func93 (by kernel_rfl) rfl #[.string a0] rfl (h := ?_); (with_reducible refine (utf_begins.calls k a0 t109 t110 _ A2.out).mono ?_); rintro e w4 ⟨rfl, hb⟩; refine ⟨_, rfl, ?_⟩; replace HB := bs_ HB hb; (try clear hb); (try clear hb2); (try clear hk); (try clear hi)))
  go_ret
  exact ⟨er_, hb_ HB⟩
 ·rw [if_neg c3] at H
  have c3b0 : decide (t109 < t110) = false := decide_eq_false c3
  clear c3
  obtain rfl := Option.some.inj H
  go_enter Try.func68, Try.ntmps68
  go_wp2_with (first | ((with_reducible refine gate_callee (f := 93) rfl ?_); refine ge_ (some 7) rfl rfl Try.func93 (by kernel_rfl) rfl #[.string a0] rfl (h := ?_); (with_reducible refine (utf_begins.calls k a0 t109 t110 _ A2.out).mono ?_); rintro e w5 ⟨rfl, hb⟩; refine ⟨_, rfl, ?_⟩; replace HB := bs_ HB hb; (try clear hb); (try clear hb2); (try clear hk); (try clear hi)))
  go_ret
  exact ⟨er_, hb_ HB⟩

end Go.Proofs.Ytkiokimpblimcaa.PBatchPlaces
