/- Of the law calamus/calamuslaw11.TreeAdds: each function as a plain Lean function, with a proof that the call comes to it; the row. By wip/tpl/own_print.py. Conditions: none but the row's own. -/
import Derived.Test.YtkiokimpblimcaaOTreeAddsx0
import Derived.Test.YtkiokimpblimcaaOTreeAddsx2
import Derived.Test.YtkiokimpblimcaaOTreeAddsx3
namespace Go.Proofs.Ytkiokimpblimcaa.PTreeAdds
open Go.RowKit Go.Proofs.YtkiokimpblimcaaW.PrintWords Go.Proofs.YtkiokimpblimcaaW.PrintLast Go.Proofs.YtkiokimpblimcaaW.PrintMore
attribute [local go_sem] max2_int min2_int max_two min_two max_three min_three max_four min_four   -- for this text's walks alone
set_option linter.unusedVariables false
set_option linter.unusedSimpArgs false

/-- Two nodes are the same, field by field. -/
def eqb69 (x0 y0 : Int) (x1 y1 : Int) (x2 y2 : Int) (x3 y3 : Int) (x4 y4 : Int) (x5 y5 : ByteArray) (x6 y6 : ByteArray) : Bool := (x0 == y0 && (x1 == y1 && (x2 == y2 && (x3 == y3 && ((x4 == y4 && (x5.toList == y5.toList && (x6.toList == y6.toList))))))))
theorem eqB69 (d : Nat) (w : World) (x0 y0 : Int) (x1 y1 : Int) (x2 y2 : Int) (x3 y3 : Int) (x4 y4 : Int) (x5 y5 : ByteArray) (x6 y6 : ByteArray) :
  (Op.equalIn (d + 3) 69 (.agg #[.int .i64 x0, .int .i64 x1, .int .i64 x2, .int .i64 x3, .int .i64 x4, .string x5, .string x6]) (.agg #[.int .i64 y0, .int .i64 y1, .int .i64 y2, .int .i64 y3, .int .i64 y4, .string y5, .string y6])).run Try.prog w = .ok (eqb69 x0 y0 x1 y1 x2 y2 x3 y3 x4 y4 x5 y5 x6 y6) w := eqA69 d w x0 y0 x1 y1 x2 y2 x3 y3 x4 y4 x5 y5 x6 y6
attribute [local go_sem high] eqB69
/-! ### tree_check: function 96 -/
mutual
def tree_check.j0 : Nat → Bool → List (S69) → Int → Option (Bool)
 | 0, _, _, _ => none
 | k + 1, x28, x103000, x103001 => if x28 = true then (some false) else (if 0 < (x103000.length : Int) then (if (!(((rd_T69 x103000 0).f0) == (-1)) || (!(((rd_T69 x103000 0).f2) == 0) || (!(((rd_T69 x103000 0).f3) == 0) || ((!(((rd_T69 x103000 0).f4.f0) == 0) || (!((((rd_T69 x103000 0).f4.f1).toList) == ([] : List UInt8)) || (!((((rd_T69 x103000 0).f4.f2).toList) == ([] : List UInt8))))))))) = true then (some false) else (if 0 ≤ (x103000.length : Int) then (if ((x103000.length : Int) : Int).toNat ≤ 281474976710656 then (tree_check.l0 k (List.replicate ((x103000.length : Int) : Int).toNat false) x103000 (x103000.length : Int) 0 x103000 x103001) else (none)) else (none))) else (none))
def tree_check.l0 : Nat → List Bool → List (S69) → Int → Int → List (S69) → Int → Option (Bool)
 | 0, _, _, _, _, _, _ => none
 | k + 1, x4, x45, x46, x47, x103000, x103001 => if x47 < x46 then (if 0 ≤ x47 then (if x47 < (x45.length : Int) then (if x47 > 0 then (if ((rd_T69 x45 x47).f0) < 0 then (some false) else (if ((rd_T69 x45 x47).f0) ≥ x47 then (some false) else (if ((rd_T69 x45 x47).f2) < 0 then (some false) else (if ((rd_T69 x45 x47).f3) < 0 then (some false) else (if 0 ≤ ((rd_T69 x45 x47).f0) then (if ((rd_T69 x45 x47).f0) < (x4.length : Int) then (tree_check.l0 k (x4.set (((rd_T69 x45 x47).f0) : Int).toNat true) x45 x46 (wrap64 (x47 + 1)) x103000 x103001) else (none)) else (none)))))) else (tree_check.l0 k x4 x45 x46 (wrap64 (x47 + 1)) x103000 x103001)) else (none)) else (none)) else (tree_check.l1 k x4 x103000 (x103000.length : Int) 0 x103000 x103001)
def tree_check.l1 : Nat → List Bool → List (S69) → Int → Int → List (S69) → Int → Option (Bool)
 | 0, _, _, _, _, _, _ => none
 | k + 1, x4, x80, x81, x82, x103000, x103001 => if x82 < x81 then (if 0 ≤ x82 then (if x82 < (x80.length : Int) then (if x82 < (x4.length : Int) then (if rdOf false x4 x82 = true then ((tree_book_has.f x103000 x103001 ((rd_T69 x80 x82).f1)).bind fun t115 => (if t115 = true then (if 0 ≤ ((rd_T69 x80 x82).f1) then (if ((rd_T69 x80 x82).f1) < (x103000.length : Int) then (if ((rd_T69 x103000 ((rd_T69 x80 x82).f1)).f0) = x82 then (tree_check.l1 k x4 x80 x81 (wrap64 (x82 + 1)) x103000 x103001) else (some false)) else (none)) else (none)) else (some false))) else (if ((rd_T69 x80 x82).f1) = (-1) then (tree_check.l1 k x4 x80 x81 (wrap64 (x82 + 1)) x103000 x103001) else (some false))) else (none)) else (none)) else (none)) else (some true)
end
def tree_check.f (k : Nat) (l0_0 : List (S69)) (a0_1 : Int) : Option (Bool) := if (l0_0.length : Int) < 1 then (tree_check.j0 k true l0_0 a0_1) else (if (l0_0.length : Int) > 1024 then (tree_check.j0 k true l0_0 a0_1) else ((tree_book_has.f l0_0 a0_1 a0_1).bind fun t103 => (tree_check.j0 k (!t103) l0_0 a0_1)))
theorem tree_check.mono_l : ∀ k, (∀ y0 y1 y2, LeO (tree_check.j0 k y0 y1 y2) (tree_check.j0 (k + 1) y0 y1 y2)) ∧ (∀ y0 y1 y2 y3 y4 y5, LeO (tree_check.l0 k y0 y1 y2 y3 y4 y5) (tree_check.l0 (k + 1) y0 y1 y2 y3 y4 y5)) ∧ (∀ y0 y1 y2 y3 y4 y5, LeO (tree_check.l1 k y0 y1 y2 y3 y4 y5) (tree_check.l1 (k + 1) y0 y1 y2 y3 y4 y5))
 | 0 => ⟨fun _ _ _ r h => by simp [tree_check.j0] at h, fun _ _ _ _ _ _ r h => by simp [tree_check.l0] at h, fun _ _ _ _ _ _ r h => by simp [tree_check.l1] at h⟩
 | k + 1 => by
  obtain ⟨ih0, ih1, ih2⟩ := tree_check.mono_l k
  refine ⟨?_, ?_, ?_⟩
  ·intro y0 y1 y2
   unfold tree_check.j0
   repeat' first
   | (with_reducible exact ih0 _ _ _)
   | (with_reducible exact ih1 _ _ _ _ _ _)
   | (with_reducible exact ih2 _ _ _ _ _ _)
   | (with_reducible exact LeO.refl _)
   | (with_reducible exact LeO.none _)
   | (with_reducible refine LeO.ite ?_ ?_)
   | (with_reducible refine LeO.bind ?_ (fun _ => ?_))
   | exact ih0 _ _ _
   | exact ih1 _ _ _ _ _ _
   | exact ih2 _ _ _ _ _ _
   | exact LeO.none _
   | refine LeO.ite ?_ ?_
   | refine LeO.bind ?_ (fun _ => ?_)
  ·intro y0 y1 y2 y3 y4 y5
   unfold tree_check.l0
   repeat' first
   | (with_reducible exact ih0 _ _ _)
   | (with_reducible exact ih1 _ _ _ _ _ _)
   | (with_reducible exact ih2 _ _ _ _ _ _)
   | (with_reducible exact LeO.refl _)
   | (with_reducible exact LeO.none _)
   | (with_reducible refine LeO.ite ?_ ?_)
   | (with_reducible refine LeO.bind ?_ (fun _ => ?_))
   | exact ih0 _ _ _
   | exact ih1 _ _ _ _ _ _
   | exact ih2 _ _ _ _ _ _
   | exact LeO.none _
   | refine LeO.ite ?_ ?_
   | refine LeO.bind ?_ (fun _ => ?_)
  ·intro y0 y1 y2 y3 y4 y5
   unfold tree_check.l1
   repeat' first
   | (with_reducible exact ih0 _ _ _)
   | (with_reducible exact ih1 _ _ _ _ _ _)
   | (with_reducible exact ih2 _ _ _ _ _ _)
   | (with_reducible exact LeO.refl _)
   | (with_reducible exact LeO.none _)
   | (with_reducible refine LeO.ite ?_ ?_)
   | (with_reducible refine LeO.bind ?_ (fun _ => ?_))
   | exact ih0 _ _ _
   | exact ih1 _ _ _ _ _ _
   | exact ih2 _ _ _ _ _ _
   | exact LeO.none _
   | refine LeO.ite ?_ ?_
   | refine LeO.bind ?_ (fun _ => ?_)
theorem tree_check.mono : ∀ a0 a1 k, LeO (tree_check.f k a0 a1) (tree_check.f (k + 1) a0 a1) := by
 intro a0 a1 k
 obtain ⟨ih0, ih1, ih2⟩ := tree_check.mono_l k
 unfold tree_check.f
 repeat' first
   | (with_reducible exact ih0 _ _ _)
   | (with_reducible exact ih1 _ _ _ _ _ _)
   | (with_reducible exact ih2 _ _ _ _ _ _)
   | (with_reducible exact LeO.refl _)
   | (with_reducible exact LeO.none _)
   | (with_reducible refine LeO.ite ?_ ?_)
   | (with_reducible refine LeO.bind ?_ (fun _ => ?_))
   | exact ih0 _ _ _
   | exact ih1 _ _ _ _ _ _
   | exact ih2 _ _ _ _ _ _
   | exact LeO.none _
   | refine LeO.ite ?_ ?_
   | refine LeO.bind ?_ (fun _ => ?_)
set_option maxHeartbeats 8000000 in
set_option maxRecDepth 100000 in
theorem tree_check.calls (k : Nat) (A0_0 : Option Addr) (c0_0 : Nat) (l0_0 : List (S69)) (a0_1 : Int) (r : Bool) (w : World) (hr0_0 : Kd.C k69 w A0_0 l0_0.length l0_0) (hc0_0 : l0_0.length ≤ c0_0) (h : tree_check.f k l0_0 a0_1 = some r) :
  Calls Try.prog 96 #[.agg #[.slice A0_0 l0_0.length c0_0, .int .i64 a0_1]] w fun e w' => e = .returned (.bool r) ∧ Below w.heap.size w w' := by
 have hu102 := Try.underlying102
 have hu69 := Try.underlying69
 have HR0_0 := Aside0.mk hr0_0
 have HC0_0 := Aside0.mk hc0_0
 clear hr0_0 hc0_0
 have HB := Aside0.mk (Below.refl w.heap.size w)
 have H : (if (l0_0.length : Int) < 1 then (tree_check.j0 k true l0_0 a0_1) else (if (l0_0.length : Int) > 1024 then (tree_check.j0 k true l0_0 a0_1) else ((tree_book_has.f l0_0 a0_1 a0_1).bind fun t103 => (tree_check.j0 k (!t103) l0_0 a0_1)))) = some r := h
 clear h
 have HC2 := Aside0.mk H
 clear H
 go_enter Try.func96, Try.ntmps96
 go_upto_region 1 with (first | ((with_reducible refine gate_dst (N := 1) rfl ?_); (try (refine gate_guard (by rfl) ?_; dsimp only)); refine be_ (N := 1) (cs := #[.slice A0_0 l0_0.length c0_0, .int .i64 a0_1]) (t := 102) (h := ?_); intro gb102 hg w3 hbox hb; have BK102 := Aside0.mk (hbox); have GW102 := gw_ HB hg; have GE102 := gw_ HB hg; replace HB := bs_ HB hb; clear hb hbox hg))
 (try simp only [Act.put, List.setIfInBounds_toArray, List.set_cons_zero, List.set_cons_succ])
 go_cut [28] (fun v28 wc => ∃ (kq : Nat) (x28_1 : Bool), v28 = .bool x28_1 ∧ Aside0 (tree_check.j0 kq x28_1 l0_0 a0_1 = some r) ∧ Aside0 (kq ≤ k) ∧ Aside0 (wc.heap[gb102]? = some (.cells #[(.slice A0_0 l0_0.length c0_0), .int .i64 a0_1] 102 (0, 0))) ∧ Aside0 (Below w.heap.size w wc))
 case first =>
  have H := HC2.out
  clear HC2
  by_cases c4 : (l0_0.length : Int) < 1
  ·rw [if_pos c4] at H
   have c4b0 : decide ((l0_0.length : Int) < 1) = true := decide_eq_true c4
   have c4b1 : decide (l0_0.length < 1) = true := decide_eq_true (by omega)
   clear c4
   (first | rw [c4b0] | (simp only [i64_w, i32_w]; rw [c4b0]) | skip)
   have H' := Aside0.mk H
   clear H
   obtain ⟨hcz5_0, hcz5_1, hfz5_0, hfz5_1⟩ := bc2_ BK102
   go_wp2
   go_meet
   case rel => exact ⟨_, (true), es_, H', ⟨by first | omega | exact Nat.le_refl _⟩, ⟨bw_ BK102.out⟩, ⟨hb_ HB⟩⟩
  ·rw [if_neg c4] at H
   have c4b0 : decide ((l0_0.length : Int) < 1) = false := decide_eq_false c4
   have c4b1 : decide (l0_0.length < 1) = false := decide_eq_false (by omega)
   clear c4
   (first | rw [c4b0] | (simp only [i64_w, i32_w]; rw [c4b0]) | skip)
   by_cases c6 : (l0_0.length : Int) > 1024
   ·rw [if_pos c6] at H
    have c6b0 : decide (1024 < (l0_0.length : Int)) = true := decide_eq_true c6
    have c6b1 : decide (1024 < l0_0.length) = true := decide_eq_true (by omega)
    clear c6
    have H' := Aside0.mk H
    clear H
    obtain ⟨hcz7_0, hcz7_1, hfz7_0, hfz7_1⟩ := bc2_ BK102
    go_wp2
    go_meet
    case rel => exact ⟨_, (true), es_, H', ⟨by first | omega | exact Nat.le_refl _⟩, ⟨bw_ BK102.out⟩, ⟨hb_ HB⟩⟩
   ·rw [if_neg c6] at H
    have c6b0 : decide (1024 < (l0_0.length : Int)) = false := decide_eq_false c6
    have c6b1 : decide (1024 < l0_0.length) = false := decide_eq_false (by omega)
    clear c6
    replace H := Option.bind_eq_some_iff.mp H
    obtain ⟨t103, A80, H⟩ := H
    replace H : (tree_check.j0 k (!t103) l0_0 a0_1) = some r := H
    have A8 := Aside0.mk A80
    clear A80
    have H' := Aside0.mk H
    clear H
    obtain ⟨hcz9_0, hcz9_1, hfz9_0, hfz9_1⟩ := bc2_ BK102
    go_wp2_with (first | (go_at_call 85; (with_reducible refine (tree_book_has.calls _ _ l0_0 a0_1 a0_1 t103 _ ?side1 ?side2 A8.out).mono ?_); (case side1 => exact cw_ (Kd.C_below HR0_0.out HB.out)); (case side2 => exact HC0_0.out); rintro e w10 ⟨rfl, hb⟩; replace BK102 := bb_ BK102 hb; replace HB := bs_ HB hb; (try clear hb); (try clear hb2); (try clear hk); (try clear hi)))
    go_meet
    case rel => exact ⟨_, (!t103), es_, H', ⟨by first | omega | exact Nat.le_refl _⟩, ⟨bw_ BK102.out⟩, ⟨hb_ HB⟩⟩
 case rest =>
  clear HC2
  obtain ⟨kq, x28_1, rfl, HA, HJ1, BK102, HB⟩ := hcut
  cases kq with
  | zero => exact absurd HA.out (by simp [tree_check.j0])
  | succ kj1 =>
   have H := HA.out
   clear HA
   simp only [tree_check.j0] at H
   by_cases c11 : x28_1 = true
   ·subst c11
    have H1 : (some false) = some r := by rw [if_pos rfl] at H; exact H
    clear H
    have H := H1
    clear H1
    obtain rfl := Option.some.inj H
    go_wp2
    go_ret
    exact ⟨er_, hb_ HB⟩
   ·replace c11 := Bool.eq_false_iff.mpr c11
    subst c11
    have H1 : (if 0 < (l0_0.length : Int) then (if (!(((rd_T69 l0_0 0).f0) == (-1)) || (!(((rd_T69 l0_0 0).f2) == 0) || (!(((rd_T69 l0_0 0).f3) == 0) || ((!(((rd_T69 l0_0 0).f4.f0) == 0) || (!((((rd_T69 l0_0 0).f4.f1).toList) == ([] : List UInt8)) || (!((((rd_T69 l0_0 0).f4.f2).toList) == ([] : List UInt8))))))))) = true then (some false) else (if 0 ≤ (l0_0.length : Int) then (if ((l0_0.length : Int) : Int).toNat ≤ 281474976710656 then (tree_check.l0 kj1 (List.replicate ((l0_0.length : Int) : Int).toNat false) l0_0 (l0_0.length : Int) 0 l0_0 a0_1) else (none)) else (none))) else (none)) = some r := by rw [if_neg (show ¬ (false = true) by decide)] at H; exact H
    clear H
    have H := H1
    clear H1
    by_cases c12 : 0 < (l0_0.length : Int)
    ·rw [if_pos c12] at H
     have c12b0 : decide (0 < (l0_0.length : Int)) = true := decide_eq_true c12
     have c12b1 : decide (0 < l0_0.length) = true := decide_eq_true (by omega)
     clear c12
     by_cases c13 : (!(((rd_T69 l0_0 0).f0) == (-1)) || (!(((rd_T69 l0_0 0).f2) == 0) || (!(((rd_T69 l0_0 0).f3) == 0) || ((!(((rd_T69 l0_0 0).f4.f0) == 0) || (!((((rd_T69 l0_0 0).f4.f1).toList) == ([] : List UInt8)) || (!((((rd_T69 l0_0 0).f4.f2).toList) == ([] : List UInt8))))))))) = true
     ·rw [if_pos c13] at H
      have c13b0 : (eqb69 (rd_T69 l0_0 0).f0 (-1) (-1) (-1) (rd_T69 l0_0 0).f2 0 (rd_T69 l0_0 0).f3 0 (rd_T69 l0_0 0).f4.f0 0 (rd_T69 l0_0 0).f4.f1 (⟨#[]⟩ : ByteArray) (rd_T69 l0_0 0).f4.f2 (⟨#[]⟩ : ByteArray)) = false := by
       have q_ : (!(((rd_T69 l0_0 0).f0) == (-1)) || (!(((rd_T69 l0_0 0).f2) == 0) || (!(((rd_T69 l0_0 0).f3) == 0) || ((!(((rd_T69 l0_0 0).f4.f0) == 0) || (!((((rd_T69 l0_0 0).f4.f1).toList) == ([] : List UInt8)) || (!((((rd_T69 l0_0 0).f4.f2).toList) == ([] : List UInt8))))))))) = true := (c13)
       unfold eqb69
       revert q_
       have t_ : ((-1 : Int) == -1) = true := rfl
       have e_ : ((⟨#[]⟩ : ByteArray).toList) = ([] : List UInt8) := by decide +kernel
       rw [t_, e_]
       cases (((rd_T69 l0_0 0).f0) == (-1 : Int)) <;> cases ((rd_T69 l0_0 0).f2 == (0 : Int)) <;> cases ((rd_T69 l0_0 0).f3 == (0 : Int)) <;> cases ((rd_T69 l0_0 0).f4.f0 == (0 : Int)) <;> cases ((rd_T69 l0_0 0).f4.f1.toList == ([] : List UInt8)) <;> cases ((rd_T69 l0_0 0).f4.f2.toList == ([] : List UInt8)) <;> simp
      clear c13
      obtain rfl := Option.some.inj H
      obtain ⟨hcz14_0, hcz14_1, hfz14_0, hfz14_1⟩ := bc2_ BK102
      have p104 : 0 ≤ (0 : Int) := (by omega)
      have q104 : 0 < (l0_0.length : Int) := of_decide_eq_true as_
      obtain ⟨ad104, e104, hx104_0, hx104_1, hx104_2, hx104_3, hx104_4, hx104_5, hx104_6⟩ := at_T69b HR0_0 HB 0 p104 q104
      cases e104
      have qi104 : (0 < l0_0.length) = True := eq_true (by omega)
      (try rw [show ((0 : Int)).toNat = 0 from rfl] at hx104_0)
      (try rw [show 0 * 7 = 0 from rfl] at hx104_0)
      (try rw [Addr.add_zero'] at hx104_0)
      (try rw [show ((0 : Int)).toNat = 0 from rfl] at hx104_1)
      (try rw [show 0 * 7 = 0 from rfl] at hx104_1)
      (try rw [Addr.add_zero'] at hx104_1)
      (try rw [show ((0 : Int)).toNat = 0 from rfl] at hx104_2)
      (try rw [show 0 * 7 = 0 from rfl] at hx104_2)
      (try rw [Addr.add_zero'] at hx104_2)
      (try rw [show ((0 : Int)).toNat = 0 from rfl] at hx104_3)
      (try rw [show 0 * 7 = 0 from rfl] at hx104_3)
      (try rw [Addr.add_zero'] at hx104_3)
      (try rw [show ((0 : Int)).toNat = 0 from rfl] at hx104_4)
      (try rw [show 0 * 7 = 0 from rfl] at hx104_4)
      (try rw [Addr.add_zero'] at hx104_4)
      (try rw [show ((0 : Int)).toNat = 0 from rfl] at hx104_5)
      (try rw [show 0 * 7 = 0 from rfl] at hx104_5)
      (try rw [Addr.add_zero'] at hx104_5)
      (try rw [show ((0 : Int)).toNat = 0 from rfl] at hx104_6)
      (try rw [show 0 * 7 = 0 from rfl] at hx104_6)
      (try rw [Addr.add_zero'] at hx104_6)
      replace p104 := eq_true p104
      replace q104 := eq_true q104
      go_upto_region 5 with (first | ((with_reducible refine gate_dst (N := 3) rfl ?_); (try (refine gate_guard (by rfl) ?_; dsimp only)); refine be_ (N := 3) (cs := #[.int .i64 0, .int .i64 0, .int .i64 0, .int .i64 0, .int .i64 0, .string (⟨#[]⟩ : ByteArray), .string (⟨#[]⟩ : ByteArray)]) (t := 69) (h := ?_); intro gb105 hg w15 hbox hb; have BK105 := Aside0.mk (hbox); have GW105 := gw_ HB hg; have GE105 := gw_ HB hg; have NB102_105 := ne_ BK102 hg; have NB105_102 := en_ BK102 hg; replace BK102 := bb_ BK102 hb; replace HB := bs_ HB hb; clear hb hbox hg; have hnb16 := NB105_102.out; have hnc16 := NB102_105.out; obtain ⟨hcz17_0, hcz17_1, hcz17_2, hcz17_3, hcz17_4, hcz17_5, hcz17_6, hfz17_0, hfz17_1, hfz17_2, hfz17_3, hfz17_4, hfz17_5, hfz17_6⟩ := bc7_ BK105))
      have n1_ : Aside0 (((((((((w15.setCell ⟨gb105, 0, none⟩ (.int .i64 ((rd_T69 l0_0 0).f0))).setCell ⟨gb105, 1, none⟩ (.int .i64 ((rd_T69 l0_0 0).f1))).setCell ⟨gb105, 2, none⟩ (.int .i64 ((rd_T69 l0_0 0).f2))).setCell ⟨gb105, 3, none⟩ (.int .i64 ((rd_T69 l0_0 0).f3))).setCell ⟨gb105, 4, none⟩ (.int .i64 ((rd_T69 l0_0 0).f4.f0))).setCell ⟨gb105, 5, none⟩ (.string ((rd_T69 l0_0 0).f4.f1))).setCell ⟨gb105, 6, none⟩ (.string ((rd_T69 l0_0 0).f4.f2))).setCell ⟨gb105, 1, none⟩ (.int .i64 (-1))).heap[gb102]? = some (.cells #[.slice (some ad104) l0_0.length c0_0, .int .i64 a0_1] 102 (0, 0))) := ⟨bp_ BK102.out⟩
      have n2_ : Aside0 (((((((((w15.setCell ⟨gb105, 0, none⟩ (.int .i64 ((rd_T69 l0_0 0).f0))).setCell ⟨gb105, 1, none⟩ (.int .i64 ((rd_T69 l0_0 0).f1))).setCell ⟨gb105, 2, none⟩ (.int .i64 ((rd_T69 l0_0 0).f2))).setCell ⟨gb105, 3, none⟩ (.int .i64 ((rd_T69 l0_0 0).f3))).setCell ⟨gb105, 4, none⟩ (.int .i64 ((rd_T69 l0_0 0).f4.f0))).setCell ⟨gb105, 5, none⟩ (.string ((rd_T69 l0_0 0).f4.f1))).setCell ⟨gb105, 6, none⟩ (.string ((rd_T69 l0_0 0).f4.f2))).setCell ⟨gb105, 1, none⟩ (.int .i64 (-1))).heap[gb105]? = some (.cells #[.int .i64 ((rd_T69 l0_0 0).f0), .int .i64 (-1), .int .i64 ((rd_T69 l0_0 0).f2), .int .i64 ((rd_T69 l0_0 0).f3), .int .i64 ((rd_T69 l0_0 0).f4.f0), .string ((rd_T69 l0_0 0).f4.f1), .string ((rd_T69 l0_0 0).f4.f2)] 69 (0, 0))) := ⟨bp_ BK105.out⟩
      have n3_ : Aside0 (Below w.heap.size w ((((((((w15.setCell ⟨gb105, 0, none⟩ (.int .i64 ((rd_T69 l0_0 0).f0))).setCell ⟨gb105, 1, none⟩ (.int .i64 ((rd_T69 l0_0 0).f1))).setCell ⟨gb105, 2, none⟩ (.int .i64 ((rd_T69 l0_0 0).f2))).setCell ⟨gb105, 3, none⟩ (.int .i64 ((rd_T69 l0_0 0).f3))).setCell ⟨gb105, 4, none⟩ (.int .i64 ((rd_T69 l0_0 0).f4.f0))).setCell ⟨gb105, 5, none⟩ (.string ((rd_T69 l0_0 0).f4.f1))).setCell ⟨gb105, 6, none⟩ (.string ((rd_T69 l0_0 0).f4.f2))).setCell ⟨gb105, 1, none⟩ (.int .i64 (-1)))) := ⟨hb_ HB⟩
      clear BK102; clear BK105; clear HB
      (try clear hcz17_0)
      (try clear hcz17_1)
      (try clear hcz17_2)
      (try clear hcz17_3)
      (try clear hcz17_4)
      (try clear hcz17_5)
      (try clear hcz17_6)
      (try clear hfz17_0)
      (try clear hfz17_1)
      (try clear hfz17_2)
      (try clear hfz17_3)
      (try clear hfz17_4)
      (try clear hfz17_5)
      (try clear hfz17_6)
      generalize ((((((((w15.setCell ⟨gb105, 0, none⟩ (.int .i64 ((rd_T69 l0_0 0).f0))).setCell ⟨gb105, 1, none⟩ (.int .i64 ((rd_T69 l0_0 0).f1))).setCell ⟨gb105, 2, none⟩ (.int .i64 ((rd_T69 l0_0 0).f2))).setCell ⟨gb105, 3, none⟩ (.int .i64 ((rd_T69 l0_0 0).f3))).setCell ⟨gb105, 4, none⟩ (.int .i64 ((rd_T69 l0_0 0).f4.f0))).setCell ⟨gb105, 5, none⟩ (.string ((rd_T69 l0_0 0).f4.f1))).setCell ⟨gb105, 6, none⟩ (.string ((rd_T69 l0_0 0).f4.f2))).setCell ⟨gb105, 1, none⟩ (.int .i64 (-1))) = w15n at n1_ n2_ n3_ ⊢
      have BK102 := n1_; have BK105 := n2_; have HB := n3_; clear n1_ n2_ n3_
      have hcn_0 : w15n.cell? ⟨gb105, 0, none⟩ = some (.int .i64 ((rd_T69 l0_0 0).f0)) := (blk_cell BK105.out 0).trans rfl
      have hfn_0 := blk_frozen BK105.out 0
      have hcn_1 : w15n.cell? ⟨gb105, 1, none⟩ = some (.int .i64 (-1)) := (blk_cell BK105.out 1).trans rfl
      have hfn_1 := blk_frozen BK105.out 1
      have hcn_2 : w15n.cell? ⟨gb105, 2, none⟩ = some (.int .i64 ((rd_T69 l0_0 0).f2)) := (blk_cell BK105.out 2).trans rfl
      have hfn_2 := blk_frozen BK105.out 2
      have hcn_3 : w15n.cell? ⟨gb105, 3, none⟩ = some (.int .i64 ((rd_T69 l0_0 0).f3)) := (blk_cell BK105.out 3).trans rfl
      have hfn_3 := blk_frozen BK105.out 3
      have hcn_4 : w15n.cell? ⟨gb105, 4, none⟩ = some (.int .i64 ((rd_T69 l0_0 0).f4.f0)) := (blk_cell BK105.out 4).trans rfl
      have hfn_4 := blk_frozen BK105.out 4
      have hcn_5 : w15n.cell? ⟨gb105, 5, none⟩ = some (.string ((rd_T69 l0_0 0).f4.f1)) := (blk_cell BK105.out 5).trans rfl
      have hfn_5 := blk_frozen BK105.out 5
      have hcn_6 : w15n.cell? ⟨gb105, 6, none⟩ = some (.string ((rd_T69 l0_0 0).f4.f2)) := (blk_cell BK105.out 6).trans rfl
      have hfn_6 := blk_frozen BK105.out 6
      have hck_0 : w15n.cell? ⟨gb102, 0, none⟩ = some (.slice (some ad104) l0_0.length c0_0) := (blk_cell BK102.out 0).trans rfl
      have hfk_0 := blk_frozen BK102.out 0
      have hck_1 : w15n.cell? ⟨gb102, 1, none⟩ = some (.int .i64 a0_1) := (blk_cell BK102.out 1).trans rfl
      have hfk_1 := blk_frozen BK102.out 1
      go_wp2
      go_ret
      exact ⟨er_, hb_ HB⟩
     ·rw [if_neg c13] at H
      have c13b0 : (eqb69 (rd_T69 l0_0 0).f0 (-1) (-1) (-1) (rd_T69 l0_0 0).f2 0 (rd_T69 l0_0 0).f3 0 (rd_T69 l0_0 0).f4.f0 0 (rd_T69 l0_0 0).f4.f1 (⟨#[]⟩ : ByteArray) (rd_T69 l0_0 0).f4.f2 (⟨#[]⟩ : ByteArray)) = true := by
       have q_ : (!(((rd_T69 l0_0 0).f0) == (-1)) || (!(((rd_T69 l0_0 0).f2) == 0) || (!(((rd_T69 l0_0 0).f3) == 0) || ((!(((rd_T69 l0_0 0).f4.f0) == 0) || (!((((rd_T69 l0_0 0).f4.f1).toList) == ([] : List UInt8)) || (!((((rd_T69 l0_0 0).f4.f2).toList) == ([] : List UInt8))))))))) = false := by simpa using c13
       unfold eqb69
       revert q_
       have t_ : ((-1 : Int) == -1) = true := rfl
       have e_ : ((⟨#[]⟩ : ByteArray).toList) = ([] : List UInt8) := by decide +kernel
       rw [t_, e_]
       cases (((rd_T69 l0_0 0).f0) == (-1 : Int)) <;> cases ((rd_T69 l0_0 0).f2 == (0 : Int)) <;> cases ((rd_T69 l0_0 0).f3 == (0 : Int)) <;> cases ((rd_T69 l0_0 0).f4.f0 == (0 : Int)) <;> cases ((rd_T69 l0_0 0).f4.f1.toList == ([] : List UInt8)) <;> cases ((rd_T69 l0_0 0).f4.f2.toList == ([] : List UInt8)) <;> simp
      clear c13
      by_cases c18 : 0 ≤ (l0_0.length : Int)
      ·rw [if_pos c18] at H
       have c18b0 := eq_true c18
       have c18b1 : decide (0 ≤ (l0_0.length : Int)) = true := decide_eq_true c18
       clear c18
       by_cases c19 : ((l0_0.length : Int) : Int).toNat ≤ 281474976710656
       ·rw [if_pos c19] at H
        have c19b0 := eq_true c19
        have c19b1 : decide (((l0_0.length : Int) : Int).toNat ≤ 281474976710656) = true := decide_eq_true c19
        clear c19
        obtain ⟨y106, hy106⟩ : ∃ y_ : List Bool, y_ = (List.replicate ((l0_0.length : Int) : Int).toNat false) := ⟨_, rfl⟩
        replace H : (tree_check.l0 kj1 y106 l0_0 (l0_0.length : Int) 0 l0_0 a0_1) = some r := th_ H hy106
        have Ny106 := Aside0.mk hy106
        clear hy106
        have H' := Aside0.mk H
        clear H
        obtain ⟨hcz20_0, hcz20_1, hfz20_0, hfz20_1⟩ := bc2_ BK102
        have p104 : 0 ≤ (0 : Int) := (by omega)
        have q104 : 0 < (l0_0.length : Int) := of_decide_eq_true as_
        obtain ⟨ad104, e104, hx104_0, hx104_1, hx104_2, hx104_3, hx104_4, hx104_5, hx104_6⟩ := at_T69b HR0_0 HB 0 p104 q104
        cases e104
        have qi104 : (0 < l0_0.length) = True := eq_true (by omega)
        (try rw [show ((0 : Int)).toNat = 0 from rfl] at hx104_0)
        (try rw [show 0 * 7 = 0 from rfl] at hx104_0)
        (try rw [Addr.add_zero'] at hx104_0)
        (try rw [show ((0 : Int)).toNat = 0 from rfl] at hx104_1)
        (try rw [show 0 * 7 = 0 from rfl] at hx104_1)
        (try rw [Addr.add_zero'] at hx104_1)
        (try rw [show ((0 : Int)).toNat = 0 from rfl] at hx104_2)
        (try rw [show 0 * 7 = 0 from rfl] at hx104_2)
        (try rw [Addr.add_zero'] at hx104_2)
        (try rw [show ((0 : Int)).toNat = 0 from rfl] at hx104_3)
        (try rw [show 0 * 7 = 0 from rfl] at hx104_3)
        (try rw [Addr.add_zero'] at hx104_3)
        (try rw [show ((0 : Int)).toNat = 0 from rfl] at hx104_4)
        (try rw [show 0 * 7 = 0 from rfl] at hx104_4)
        (try rw [Addr.add_zero'] at hx104_4)
        (try rw [show ((0 : Int)).toNat = 0 from rfl] at hx104_5)
        (try rw [show 0 * 7 = 0 from rfl] at hx104_5)
        (try rw [Addr.add_zero'] at hx104_5)
        (try rw [show ((0 : Int)).toNat = 0 from rfl] at hx104_6)
        (try rw [show 0 * 7 = 0 from rfl] at hx104_6)
        (try rw [Addr.add_zero'] at hx104_6)
        replace p104 := eq_true p104
        replace q104 := eq_true q104
        go_upto_region 5 with (first | ((with_reducible refine gate_dst (N := 3) rfl ?_); (try (refine gate_guard (by rfl) ?_; dsimp only)); refine be_ (N := 3) (cs := #[.int .i64 0, .int .i64 0, .int .i64 0, .int .i64 0, .int .i64 0, .string (⟨#[]⟩ : ByteArray), .string (⟨#[]⟩ : ByteArray)]) (t := 69) (h := ?_); intro gb105 hg w21 hbox hb; have BK105 := Aside0.mk (hbox); have GW105 := gw_ HB hg; have GE105 := gw_ HB hg; have NB102_105 := ne_ BK102 hg; have NB105_102 := en_ BK102 hg; replace BK102 := bb_ BK102 hb; replace HB := bs_ HB hb; clear hb hbox hg; have hnb22 := NB105_102.out; have hnc22 := NB102_105.out; obtain ⟨hcz23_0, hcz23_1, hcz23_2, hcz23_3, hcz23_4, hcz23_5, hcz23_6, hfz23_0, hfz23_1, hfz23_2, hfz23_3, hfz23_4, hfz23_5, hfz23_6⟩ := bc7_ BK105; obtain ⟨hcz24_0, hcz24_1, hfz24_0, hfz24_1⟩ := bc2_ BK102))
        have n1_ : Aside0 (((((((((w21.setCell ⟨gb105, 0, none⟩ (.int .i64 ((rd_T69 l0_0 0).f0))).setCell ⟨gb105, 1, none⟩ (.int .i64 ((rd_T69 l0_0 0).f1))).setCell ⟨gb105, 2, none⟩ (.int .i64 ((rd_T69 l0_0 0).f2))).setCell ⟨gb105, 3, none⟩ (.int .i64 ((rd_T69 l0_0 0).f3))).setCell ⟨gb105, 4, none⟩ (.int .i64 ((rd_T69 l0_0 0).f4.f0))).setCell ⟨gb105, 5, none⟩ (.string ((rd_T69 l0_0 0).f4.f1))).setCell ⟨gb105, 6, none⟩ (.string ((rd_T69 l0_0 0).f4.f2))).setCell ⟨gb105, 1, none⟩ (.int .i64 (-1))).heap[gb102]? = some (.cells #[.slice (some ad104) l0_0.length c0_0, .int .i64 a0_1] 102 (0, 0))) := ⟨bp_ BK102.out⟩
        have n2_ : Aside0 (((((((((w21.setCell ⟨gb105, 0, none⟩ (.int .i64 ((rd_T69 l0_0 0).f0))).setCell ⟨gb105, 1, none⟩ (.int .i64 ((rd_T69 l0_0 0).f1))).setCell ⟨gb105, 2, none⟩ (.int .i64 ((rd_T69 l0_0 0).f2))).setCell ⟨gb105, 3, none⟩ (.int .i64 ((rd_T69 l0_0 0).f3))).setCell ⟨gb105, 4, none⟩ (.int .i64 ((rd_T69 l0_0 0).f4.f0))).setCell ⟨gb105, 5, none⟩ (.string ((rd_T69 l0_0 0).f4.f1))).setCell ⟨gb105, 6, none⟩ (.string ((rd_T69 l0_0 0).f4.f2))).setCell ⟨gb105, 1, none⟩ (.int .i64 (-1))).heap[gb105]? = some (.cells #[.int .i64 ((rd_T69 l0_0 0).f0), .int .i64 (-1), .int .i64 ((rd_T69 l0_0 0).f2), .int .i64 ((rd_T69 l0_0 0).f3), .int .i64 ((rd_T69 l0_0 0).f4.f0), .string ((rd_T69 l0_0 0).f4.f1), .string ((rd_T69 l0_0 0).f4.f2)] 69 (0, 0))) := ⟨bp_ BK105.out⟩
        have n3_ : Aside0 (Below w.heap.size w ((((((((w21.setCell ⟨gb105, 0, none⟩ (.int .i64 ((rd_T69 l0_0 0).f0))).setCell ⟨gb105, 1, none⟩ (.int .i64 ((rd_T69 l0_0 0).f1))).setCell ⟨gb105, 2, none⟩ (.int .i64 ((rd_T69 l0_0 0).f2))).setCell ⟨gb105, 3, none⟩ (.int .i64 ((rd_T69 l0_0 0).f3))).setCell ⟨gb105, 4, none⟩ (.int .i64 ((rd_T69 l0_0 0).f4.f0))).setCell ⟨gb105, 5, none⟩ (.string ((rd_T69 l0_0 0).f4.f1))).setCell ⟨gb105, 6, none⟩ (.string ((rd_T69 l0_0 0).f4.f2))).setCell ⟨gb105, 1, none⟩ (.int .i64 (-1)))) := ⟨hb_ HB⟩
        clear BK102; clear BK105; clear HB
        (try clear hcz23_0)
        (try clear hcz23_1)
        (try clear hcz23_2)
        (try clear hcz23_3)
        (try clear hcz23_4)
        (try clear hcz23_5)
        (try clear hcz23_6)
        (try clear hcz24_0)
        (try clear hcz24_1)
        (try clear hfz23_0)
        (try clear hfz23_1)
        (try clear hfz23_2)
        (try clear hfz23_3)
        (try clear hfz23_4)
        (try clear hfz23_5)
        (try clear hfz23_6)
        (try clear hfz24_0)
        (try clear hfz24_1)
        generalize ((((((((w21.setCell ⟨gb105, 0, none⟩ (.int .i64 ((rd_T69 l0_0 0).f0))).setCell ⟨gb105, 1, none⟩ (.int .i64 ((rd_T69 l0_0 0).f1))).setCell ⟨gb105, 2, none⟩ (.int .i64 ((rd_T69 l0_0 0).f2))).setCell ⟨gb105, 3, none⟩ (.int .i64 ((rd_T69 l0_0 0).f3))).setCell ⟨gb105, 4, none⟩ (.int .i64 ((rd_T69 l0_0 0).f4.f0))).setCell ⟨gb105, 5, none⟩ (.string ((rd_T69 l0_0 0).f4.f1))).setCell ⟨gb105, 6, none⟩ (.string ((rd_T69 l0_0 0).f4.f2))).setCell ⟨gb105, 1, none⟩ (.int .i64 (-1))) = w21n at n1_ n2_ n3_ ⊢
        have BK102 := n1_; have BK105 := n2_; have HB := n3_; clear n1_ n2_ n3_
        have hcn_0 : w21n.cell? ⟨gb105, 0, none⟩ = some (.int .i64 ((rd_T69 l0_0 0).f0)) := (blk_cell BK105.out 0).trans rfl
        have hfn_0 := blk_frozen BK105.out 0
        have hcn_1 : w21n.cell? ⟨gb105, 1, none⟩ = some (.int .i64 (-1)) := (blk_cell BK105.out 1).trans rfl
        have hfn_1 := blk_frozen BK105.out 1
        have hcn_2 : w21n.cell? ⟨gb105, 2, none⟩ = some (.int .i64 ((rd_T69 l0_0 0).f2)) := (blk_cell BK105.out 2).trans rfl
        have hfn_2 := blk_frozen BK105.out 2
        have hcn_3 : w21n.cell? ⟨gb105, 3, none⟩ = some (.int .i64 ((rd_T69 l0_0 0).f3)) := (blk_cell BK105.out 3).trans rfl
        have hfn_3 := blk_frozen BK105.out 3
        have hcn_4 : w21n.cell? ⟨gb105, 4, none⟩ = some (.int .i64 ((rd_T69 l0_0 0).f4.f0)) := (blk_cell BK105.out 4).trans rfl
        have hfn_4 := blk_frozen BK105.out 4
        have hcn_5 : w21n.cell? ⟨gb105, 5, none⟩ = some (.string ((rd_T69 l0_0 0).f4.f1)) := (blk_cell BK105.out 5).trans rfl
        have hfn_5 := blk_frozen BK105.out 5
        have hcn_6 : w21n.cell? ⟨gb105, 6, none⟩ = some (.string ((rd_T69 l0_0 0).f4.f2)) := (blk_cell BK105.out 6).trans rfl
        have hfn_6 := blk_frozen BK105.out 6
        have hck_0 : w21n.cell? ⟨gb102, 0, none⟩ = some (.slice (some ad104) l0_0.length c0_0) := (blk_cell BK102.out 0).trans rfl
        have hfk_0 := blk_frozen BK102.out 0
        have hck_1 : w21n.cell? ⟨gb102, 1, none⟩ = some (.int .i64 a0_1) := (blk_cell BK102.out 1).trans rfl
        have hfk_1 := blk_frozen BK102.out 1
        go_wp2_with (first | ((with_reducible refine gate_dst (N := 42) rfl ?_); (try (refine gate_guard (by rfl) ?_; dsimp only)); refine Kd.R_make Kd.bool _ 4 rfl (N := 42) rfl 113 _ _ rfl (l0_0.length : Int) rfl rfl Try.underlying113 (.bool false) 1 info4 rfl (by decide) (by omega) false (ok := fun _ => True) (okp := fun _ => True) rfl (fun _ hk => hk) trivial (of_decide_eq_true as_) (Nat.le_trans (Nat.mul_le_mul_right _ (of_decide_eq_true as_ : (l0_0.length : Int).toNat ≤ 281474976710656)) (by omega)) (Below.refl _ _) (Nat.le_refl _) ?_; intro v107 w25 ho26 hb hg_ hnew_; clear hg_ hnew_; (first | rw [← Ny106.out] at ho26 | (simp only [Int.reduceToNat] at ho26; rw [← Ny106.out] at ho26)); have HO108 := Aside0.mk (Kd.R_lower ho26 (below_size (hb_ HB))); replace BK102 := bb_ BK102 hb; replace BK105 := bb_ BK105 hb; replace HB := bs_ HB hb; clear hb ho26; obtain ⟨hcz27_0, hcz27_1, hfz27_0, hfz27_1⟩ := bc2_ BK102))
        go_loopg [47] kj1 (fun kq v47 w' => ∃ (x4_2 : List Bool) (x47_2 : Int), v47 = .int .i64 x47_2 ∧ Aside0 (tree_check.l0 kq x4_2 l0_0 (l0_0.length : Int) x47_2 l0_0 a0_1 = some r) ∧ Aside0 (kq ≤ kj1) ∧ Aside0 (Kd.R Kd.bool 4 w' w.heap.size (fun _ => True) v107 x4_2) ∧ Aside0 (w'.heap[gb102]? = some (.cells #[(.slice (some ad104) l0_0.length c0_0), .int .i64 a0_1] 102 (0, 0))) ∧ Aside0 (w'.heap[gb105]? = some (.cells #[.int .i64 ((rd_T69 l0_0 0).f0), .int .i64 (-1), .int .i64 ((rd_T69 l0_0 0).f2), .int .i64 ((rd_T69 l0_0 0).f3), .int .i64 ((rd_T69 l0_0 0).f4.f0), .string ((rd_T69 l0_0 0).f4.f1), .string ((rd_T69 l0_0 0).f4.f2)] 69 (0, 0))) ∧ Aside0 (Below w.heap.size w w'))
        case atStart => exact ⟨(y106), (0), es_, H', ⟨Nat.le_refl _⟩, ⟨rw_ HO108.out⟩, ⟨bw_ BK102.out⟩, ⟨bw_ BK105.out⟩, ⟨hb_ HB⟩⟩
        case round =>
         clear H'
         try clear c11
         try clear c12
         try clear c12b0
         try clear c12b1
         try clear c13
         try clear c13b0
         try clear c18
         try clear c18b0
         try clear c18b1
         try clear c19
         try clear c19b0
         try clear c19b1
         try clear hcz20_0
         try clear hcz20_1
         try clear hcz23_0
         try clear hcz23_1
         try clear hcz23_2
         try clear hcz23_3
         try clear hcz23_4
         try clear hcz23_5
         try clear hcz23_6
         try clear hcz24_0
         try clear hcz24_1
         try clear hcz27_0
         try clear hcz27_1
         try clear hfz20_0
         try clear hfz20_1
         try clear hfz23_0
         try clear hfz23_1
         try clear hfz23_2
         try clear hfz23_3
         try clear hfz23_4
         try clear hfz23_5
         try clear hfz23_6
         try clear hfz24_0
         try clear hfz24_1
         try clear hfz27_0
         try clear hfz27_1
         try clear hx104_0
         try clear hx104_1
         try clear hx104_2
         try clear hx104_3
         try clear hx104_4
         try clear hx104_5
         try clear hx104_6
         try clear p104
         try clear q104
         obtain ⟨x4_2, x47_2, rfl, HA, HK2, HO_4, BK102, BK105, HB⟩ := hrel
         cases gk with
         | zero => exact absurd HA.out (by simp [tree_check.l0])
         | succ k2 =>
          have H := HA.out
          clear HA
          simp only [tree_check.l0] at H
          by_cases c28 : x47_2 < (l0_0.length : Int)
          ·rw [if_pos c28] at H
           have c28b0 : decide (x47_2 < (l0_0.length : Int)) = true := decide_eq_true c28
           clear c28
           by_cases c29 : 0 ≤ x47_2
           ·rw [if_pos c29] at H
            have c29b0 : decide (0 ≤ x47_2) = true := decide_eq_true c29
            clear c29
            by_cases c30 : x47_2 < (l0_0.length : Int)
            ·rw [if_pos c30] at H
             have c30b0 : decide (x47_2 < (l0_0.length : Int)) = true := decide_eq_true c30
             clear c30
             by_cases c31 : x47_2 > 0
             ·rw [if_pos c31] at H
              have c31b0 : decide (0 < x47_2) = true := decide_eq_true c31
              clear c31
              by_cases c32 : ((rd_T69 l0_0 x47_2).f0) < 0
              ·rw [if_pos c32] at H
               have c32b0 : decide (((rd_T69 l0_0 x47_2).f0) < 0) = true := decide_eq_true c32
               clear c32
               obtain rfl := Option.some.inj H
               have p109 : 0 ≤ (x47_2 : Int) := of_decide_eq_true as_
               have q109 : x47_2 < (l0_0.length : Int) := of_decide_eq_true as_
               obtain ⟨ad109, e109, hx109_0, hx109_1, hx109_2, hx109_3, hx109_4, hx109_5, hx109_6⟩ := at_T69b HR0_0 HB x47_2 p109 q109
               obtain rfl : ad104 = ad109 := (by injection e109)
               replace p109 := eq_true p109
               replace q109 := eq_true q109
               go_wp2_with (first | ((with_reducible refine gate_dst (N := 6) rfl ?_); (try (refine gate_guard (by rfl) ?_; dsimp only)); refine be_ (N := 6) (cs := #[.int .i64 0, .int .i64 0, .int .i64 0, .int .i64 0, .int .i64 0, .string (⟨#[]⟩ : ByteArray), .string (⟨#[]⟩ : ByteArray)]) (t := 69) (h := ?_); intro gb110 hg w33 hbox hb; have BK110 := Aside0.mk (hbox); have GW110 := gw_ HB hg; have GE110 := gw_ HB hg; have NB102_110 := ne_ BK102 hg; have NB110_102 := en_ BK102 hg; have NB105_110 := ne_ BK105 hg; have NB110_105 := en_ BK105 hg; replace HO_4 := Aside0.mk (Kd.R_below (rw_ HO_4.out) hb); replace BK102 := bb_ BK102 hb; replace BK105 := bb_ BK105 hb; replace HB := bs_ HB hb; clear hb hbox hg; have hnb34 := NB110_102.out; have hnc34 := NB102_110.out; have hnb35 := NB110_105.out; have hnc35 := NB105_110.out; obtain ⟨hcz36_0, hcz36_1, hcz36_2, hcz36_3, hcz36_4, hcz36_5, hcz36_6, hfz36_0, hfz36_1, hfz36_2, hfz36_3, hfz36_4, hfz36_5, hfz36_6⟩ := bc7_ BK110))
               go_ret
               exact ⟨er_, hb_ HB⟩
              ·rw [if_neg c32] at H
               have c32b0 : decide (((rd_T69 l0_0 x47_2).f0) < 0) = false := decide_eq_false c32
               clear c32
               by_cases c37 : ((rd_T69 l0_0 x47_2).f0) ≥ x47_2
               ·rw [if_pos c37] at H
                have c37b0 : decide (x47_2 ≤ ((rd_T69 l0_0 x47_2).f0)) = true := decide_eq_true c37
                clear c37
                obtain rfl := Option.some.inj H
                have p109 : 0 ≤ (x47_2 : Int) := of_decide_eq_true as_
                have q109 : x47_2 < (l0_0.length : Int) := of_decide_eq_true as_
                obtain ⟨ad109, e109, hx109_0, hx109_1, hx109_2, hx109_3, hx109_4, hx109_5, hx109_6⟩ := at_T69b HR0_0 HB x47_2 p109 q109
                obtain rfl : ad104 = ad109 := (by injection e109)
                replace p109 := eq_true p109
                replace q109 := eq_true q109
                go_wp2_with (first | ((with_reducible refine gate_dst (N := 6) rfl ?_); (try (refine gate_guard (by rfl) ?_; dsimp only)); refine be_ (N := 6) (cs := #[.int .i64 0, .int .i64 0, .int .i64 0, .int .i64 0, .int .i64 0, .string (⟨#[]⟩ : ByteArray), .string (⟨#[]⟩ : ByteArray)]) (t := 69) (h := ?_); intro gb110 hg w38 hbox hb; have BK110 := Aside0.mk (hbox); have GW110 := gw_ HB hg; have GE110 := gw_ HB hg; have NB102_110 := ne_ BK102 hg; have NB110_102 := en_ BK102 hg; have NB105_110 := ne_ BK105 hg; have NB110_105 := en_ BK105 hg; replace HO_4 := Aside0.mk (Kd.R_below (rw_ HO_4.out) hb); replace BK102 := bb_ BK102 hb; replace BK105 := bb_ BK105 hb; replace HB := bs_ HB hb; clear hb hbox hg; have hnb39 := NB110_102.out; have hnc39 := NB102_110.out; have hnb40 := NB110_105.out; have hnc40 := NB105_110.out; obtain ⟨hcz41_0, hcz41_1, hcz41_2, hcz41_3, hcz41_4, hcz41_5, hcz41_6, hfz41_0, hfz41_1, hfz41_2, hfz41_3, hfz41_4, hfz41_5, hfz41_6⟩ := bc7_ BK110))
                go_ret
                exact ⟨er_, hb_ HB⟩
               ·rw [if_neg c37] at H
                have c37b0 : decide (x47_2 ≤ ((rd_T69 l0_0 x47_2).f0)) = false := decide_eq_false c37
                clear c37
                by_cases c42 : ((rd_T69 l0_0 x47_2).f2) < 0
                ·rw [if_pos c42] at H
                 have c42b0 : decide (((rd_T69 l0_0 x47_2).f2) < 0) = true := decide_eq_true c42
                 clear c42
                 obtain rfl := Option.some.inj H
                 have p109 : 0 ≤ (x47_2 : Int) := of_decide_eq_true as_
                 have q109 : x47_2 < (l0_0.length : Int) := of_decide_eq_true as_
                 obtain ⟨ad109, e109, hx109_0, hx109_1, hx109_2, hx109_3, hx109_4, hx109_5, hx109_6⟩ := at_T69b HR0_0 HB x47_2 p109 q109
                 obtain rfl : ad104 = ad109 := (by injection e109)
                 replace p109 := eq_true p109
                 replace q109 := eq_true q109
                 go_wp2_with (first | ((with_reducible refine gate_dst (N := 6) rfl ?_); (try (refine gate_guard (by rfl) ?_; dsimp only)); refine be_ (N := 6) (cs := #[.int .i64 0, .int .i64 0, .int .i64 0, .int .i64 0, .int .i64 0, .string (⟨#[]⟩ : ByteArray), .string (⟨#[]⟩ : ByteArray)]) (t := 69) (h := ?_); intro gb110 hg w43 hbox hb; have BK110 := Aside0.mk (hbox); have GW110 := gw_ HB hg; have GE110 := gw_ HB hg; have NB102_110 := ne_ BK102 hg; have NB110_102 := en_ BK102 hg; have NB105_110 := ne_ BK105 hg; have NB110_105 := en_ BK105 hg; replace HO_4 := Aside0.mk (Kd.R_below (rw_ HO_4.out) hb); replace BK102 := bb_ BK102 hb; replace BK105 := bb_ BK105 hb; replace HB := bs_ HB hb; clear hb hbox hg; have hnb44 := NB110_102.out; have hnc44 := NB102_110.out; have hnb45 := NB110_105.out; have hnc45 := NB105_110.out; obtain ⟨hcz46_0, hcz46_1, hcz46_2, hcz46_3, hcz46_4, hcz46_5, hcz46_6, hfz46_0, hfz46_1, hfz46_2, hfz46_3, hfz46_4, hfz46_5, hfz46_6⟩ := bc7_ BK110))
                 go_ret
                 exact ⟨er_, hb_ HB⟩
                ·rw [if_neg c42] at H
                 have c42b0 : decide (((rd_T69 l0_0 x47_2).f2) < 0) = false := decide_eq_false c42
                 clear c42
                 by_cases c47 : ((rd_T69 l0_0 x47_2).f3) < 0
                 ·rw [if_pos c47] at H
                  have c47b0 : decide (((rd_T69 l0_0 x47_2).f3) < 0) = true := decide_eq_true c47
                  clear c47
                  obtain rfl := Option.some.inj H
                  have p109 : 0 ≤ (x47_2 : Int) := of_decide_eq_true as_
                  have q109 : x47_2 < (l0_0.length : Int) := of_decide_eq_true as_
                  obtain ⟨ad109, e109, hx109_0, hx109_1, hx109_2, hx109_3, hx109_4, hx109_5, hx109_6⟩ := at_T69b HR0_0 HB x47_2 p109 q109
                  obtain rfl : ad104 = ad109 := (by injection e109)
                  replace p109 := eq_true p109
                  replace q109 := eq_true q109
                  go_wp2_with (first | ((with_reducible refine gate_dst (N := 6) rfl ?_); (try (refine gate_guard (by rfl) ?_; dsimp only)); refine be_ (N := 6) (cs := #[.int .i64 0, .int .i64 0, .int .i64 0, .int .i64 0, .int .i64 0, .string (⟨#[]⟩ : ByteArray), .string (⟨#[]⟩ : ByteArray)]) (t := 69) (h := ?_); intro gb110 hg w48 hbox hb; have BK110 := Aside0.mk (hbox); have GW110 := gw_ HB hg; have GE110 := gw_ HB hg; have NB102_110 := ne_ BK102 hg; have NB110_102 := en_ BK102 hg; have NB105_110 := ne_ BK105 hg; have NB110_105 := en_ BK105 hg; replace HO_4 := Aside0.mk (Kd.R_below (rw_ HO_4.out) hb); replace BK102 := bb_ BK102 hb; replace BK105 := bb_ BK105 hb; replace HB := bs_ HB hb; clear hb hbox hg; have hnb49 := NB110_102.out; have hnc49 := NB102_110.out; have hnb50 := NB110_105.out; have hnc50 := NB105_110.out; obtain ⟨hcz51_0, hcz51_1, hcz51_2, hcz51_3, hcz51_4, hcz51_5, hcz51_6, hfz51_0, hfz51_1, hfz51_2, hfz51_3, hfz51_4, hfz51_5, hfz51_6⟩ := bc7_ BK110))
                  go_ret
                  exact ⟨er_, hb_ HB⟩
                 ·rw [if_neg c47] at H
                  have c47b0 : decide (((rd_T69 l0_0 x47_2).f3) < 0) = false := decide_eq_false c47
                  clear c47
                  by_cases c52 : 0 ≤ ((rd_T69 l0_0 x47_2).f0)
                  ·rw [if_pos c52] at H
                   have c52b0 : decide (0 ≤ ((rd_T69 l0_0 x47_2).f0)) = true := decide_eq_true c52
                   clear c52
                   by_cases c53 : ((rd_T69 l0_0 x47_2).f0) < (x4_2.length : Int)
                   ·rw [if_pos c53] at H
                    have c53b0 : decide (((rd_T69 l0_0 x47_2).f0) < (x4_2.length : Int)) = true := decide_eq_true c53
                    clear c53
                    obtain ⟨y111, hy111⟩ : ∃ y_ : List Bool, y_ = (x4_2.set (((rd_T69 l0_0 x47_2).f0) : Int).toNat true) := ⟨_, rfl⟩
                    replace H : (tree_check.l0 k2 y111 l0_0 (l0_0.length : Int) (wrap64 (x47_2 + 1)) l0_0 a0_1) = some r := th_ H hy111
                    have Ny111 := Aside0.mk hy111
                    clear hy111
                    have H' := Aside0.mk H
                    clear H
                    have p109 : 0 ≤ (x47_2 : Int) := of_decide_eq_true as_
                    have q109 : x47_2 < (l0_0.length : Int) := of_decide_eq_true as_
                    obtain ⟨ad109, e109, hx109_0, hx109_1, hx109_2, hx109_3, hx109_4, hx109_5, hx109_6⟩ := at_T69b HR0_0 HB x47_2 p109 q109
                    obtain rfl : ad104 = ad109 := (by injection e109)
                    replace p109 := eq_true p109
                    replace q109 := eq_true q109
                    go_wp2_with (first | ((with_reducible refine gate_dst (N := 6) rfl ?_); (try (refine gate_guard (by rfl) ?_; dsimp only)); refine be_ (N := 6) (cs := #[.int .i64 0, .int .i64 0, .int .i64 0, .int .i64 0, .int .i64 0, .string (⟨#[]⟩ : ByteArray), .string (⟨#[]⟩ : ByteArray)]) (t := 69) (h := ?_); intro gb110 hg w55 hbox hb; have BK110 := Aside0.mk (hbox); have GW110 := gw_ HB hg; have GE110 := gw_ HB hg; have NB102_110 := ne_ BK102 hg; have NB110_102 := en_ BK102 hg; have NB105_110 := ne_ BK105 hg; have NB110_105 := en_ BK105 hg; replace HO_4 := Aside0.mk (Kd.R_below (rw_ HO_4.out) hb); replace BK102 := bb_ BK102 hb; replace BK105 := bb_ BK105 hb; replace HB := bs_ HB hb; clear hb hbox hg; have hnb56 := NB110_102.out; have hnc56 := NB102_110.out; have hnb57 := NB110_105.out; have hnc57 := NB105_110.out; obtain ⟨hcz58_0, hcz58_1, hcz58_2, hcz58_3, hcz58_4, hcz58_5, hcz58_6, hfz58_0, hfz58_1, hfz58_2, hfz58_3, hfz58_4, hfz58_5, hfz58_6⟩ := bc7_ BK110) | ((with_reducible refine gate_store (t := 69) (p := 6) rfl ?_); refine store_event (t := 69) (p := 6) (v := ?vo_w59) (w1 := (((((((w55.setCell ⟨gb110, 0, none⟩ (.int .i64 ((rd_T69 l0_0 x47_2).f0))).setCell ⟨gb110, 1, none⟩ (.int .i64 ((rd_T69 l0_0 x47_2).f1))).setCell ⟨gb110, 2, none⟩ (.int .i64 ((rd_T69 l0_0 x47_2).f2))).setCell ⟨gb110, 3, none⟩ (.int .i64 ((rd_T69 l0_0 x47_2).f3))).setCell ⟨gb110, 4, none⟩ (.int .i64 ((rd_T69 l0_0 x47_2).f4.f0))).setCell ⟨gb110, 5, none⟩ (.string ((rd_T69 l0_0 x47_2).f4.f1))).setCell ⟨gb110, 6, none⟩ (.string ((rd_T69 l0_0 x47_2).f4.f2)))) ?hg ?ho ?hn ?hr ?_; (case ho => rfl); (case hg => rfl); (case hn => rfl); (case hr => first | (go_simp; done) | (go_simp; rfl)); intro w59 hw; have n0_ : Aside0 (Kd.R Kd.bool 4 w59 w.heap.size (fun _ => True) v107 x4_2) := ⟨(by rw [hw]; exact (by (with_reducible repeat (first | apply Kd.R_alloc | apply Kd.R_drewN | apply Kd.R_drew)); exact Kd.R_mono (rf_ (Kd.R_types HO_4.out BK110.out (by decide)) (fun _ hk => hk.2)) (fun _ hk => trivial)))⟩; have n1_ : Aside0 (w59.heap[gb102]? = some (.cells #[.slice (some ad104) l0_0.length c0_0, .int .i64 a0_1] 102 (0, 0))) := ⟨(by rw [hw]; exact (bp_ BK102.out))⟩; have n2_ : Aside0 (w59.heap[gb105]? = some (.cells #[.int .i64 ((rd_T69 l0_0 0).f0), .int .i64 (-1), .int .i64 ((rd_T69 l0_0 0).f2), .int .i64 ((rd_T69 l0_0 0).f3), .int .i64 ((rd_T69 l0_0 0).f4.f0), .string ((rd_T69 l0_0 0).f4.f1), .string ((rd_T69 l0_0 0).f4.f2)] 69 (0, 0))) := ⟨(by rw [hw]; exact (bp_ BK105.out))⟩; have n3_ : Aside0 (w59.heap[gb110]? = some (.cells #[.int .i64 ((rd_T69 l0_0 x47_2).f0), .int .i64 ((rd_T69 l0_0 x47_2).f1), .int .i64 ((rd_T69 l0_0 x47_2).f2), .int .i64 ((rd_T69 l0_0 x47_2).f3), .int .i64 ((rd_T69 l0_0 x47_2).f4.f0), .string ((rd_T69 l0_0 x47_2).f4.f1), .string ((rd_T69 l0_0 x47_2).f4.f2)] 69 (0, 0))) := ⟨(by rw [hw]; exact (bp_ BK110.out))⟩; have n4_ : Aside0 (Below w.heap.size w w59) := ⟨(by rw [hw]; exact (hb_ HB))⟩; clear hw; clear HO_4; clear BK102; clear BK105; clear BK110; clear HB; have HO_4 := n0_; have BK102 := n1_; have BK105 := n2_; have BK110 := n3_; have HB := n4_; clear n0_ n1_ n2_ n3_ n4_; obtain ⟨hcz60_0, hcz60_1, hcz60_2, hcz60_3, hcz60_4, hcz60_5, hcz60_6, hfz60_0, hfz60_1, hfz60_2, hfz60_3, hfz60_4, hfz60_5, hfz60_6⟩ := bc7_ BK110; have p54 : 0 ≤ (((rd_T69 l0_0 x47_2).f0) : Int) := of_decide_eq_true as_; have q54 : (((rd_T69 l0_0 x47_2).f0) : Int) < ((x4_2.length : Int) : Int) := of_decide_eq_true as_; obtain ⟨go54, co54, eo54, gb54, gl54, cl54, HG54⟩ := Kd.R_form HO_4.out (by omega); (first | cases eo54 | (injection eo54 with ea_ en_ ec_; (first | subst ea_ | (injection ea_ with ea_; subst ea_)); subst ec_; clear en_)); have GB54 := Aside0.mk gb54; have GG54 := Aside0.mk HG54; clear gb54 gl54 HG54; obtain ⟨hx54_0, hf54_0⟩ := Kd.R_celln false HO_4.out (((rd_T69 l0_0 x47_2).f0) : Int) p54 q54; replace p54 := eq_true p54; replace q54 := eq_true q54; obtain ⟨hy61_, hz61_⟩ := Kd.R_celln false HO_4.out (((rd_T69 l0_0 x47_2).f0) : Int) (of_decide_eq_true as_) (of_decide_eq_true as_); have HP61 := Kd.R_putg HO_4.out (((rd_T69 l0_0 x47_2).f0) : Int) true) | ((with_reducible refine gate_store (t := 4) (p := 76) rfl ?_); refine store_event (t := 4) (p := 76) (v := ?vo_w62) (w1 := (w59.setCell ⟨go54, (((rd_T69 l0_0 x47_2).f0) : Int).toNat, none⟩ (.bool true))) ?hg ?ho ?hn ?hr ?_; (case ho => rfl); (case hg => rfl); (case hn => rfl); (case hr => first | (go_simp; done) | (go_simp; rfl)); intro w62 hw; have hg : w59.grownBy w62 (some go54) := (by rw [hw]; exact HP61.2); have hp_ : Kd.R Kd.bool 4 w62 w.heap.size (fun _ => True) (.slice (some ⟨go54, 0, none⟩) x4_2.length co54) y111 := (by rw [hw, Ny111.out]; exact HP61.1); clear HP61; replace BK102 := Aside0.mk (blk_grown (g := gb102) (o := .cells #[.slice (some ad104) l0_0.length c0_0, .int .i64 a0_1] 102 (0, 0)) (bw_ BK102.out) hg (Kd.R_ne HO_4.out BK102.out (by decide))); replace BK105 := Aside0.mk (blk_grown (g := gb105) (o := .cells #[.int .i64 ((rd_T69 l0_0 0).f0), .int .i64 (-1), .int .i64 ((rd_T69 l0_0 0).f2), .int .i64 ((rd_T69 l0_0 0).f3), .int .i64 ((rd_T69 l0_0 0).f4.f0), .string ((rd_T69 l0_0 0).f4.f1), .string ((rd_T69 l0_0 0).f4.f2)] 69 (0, 0)) (bw_ BK105.out) hg (Kd.R_ne HO_4.out BK105.out (by decide))); replace BK110 := Aside0.mk (blk_grown (g := gb110) (o := .cells #[.int .i64 ((rd_T69 l0_0 x47_2).f0), .int .i64 ((rd_T69 l0_0 x47_2).f1), .int .i64 ((rd_T69 l0_0 x47_2).f2), .int .i64 ((rd_T69 l0_0 x47_2).f3), .int .i64 ((rd_T69 l0_0 x47_2).f4.f0), .string ((rd_T69 l0_0 x47_2).f4.f1), .string ((rd_T69 l0_0 x47_2).f4.f2)] 69 (0, 0)) (bw_ BK110.out) hg (Kd.R_ne HO_4.out BK110.out (by decide))); replace HB := Aside0.mk ((by rw [hw]; exact below_set (HB.out) GB54.out : Below w.heap.size w w62)); replace HO_4 := Aside0.mk (hp_); clear hg hw hp_))
                    go_roundg k2
                    case measure => have := HJ1.out; have := HK2.out; omega
                    case rel => exact ⟨(y111), (wrap64 (x47_2 + 1)), es_, H', ⟨by have := HJ1.out; have := HK2.out; omega⟩, ⟨rw_ HO_4.out⟩, ⟨bw_ BK102.out⟩, ⟨bw_ BK105.out⟩, ⟨hb_ HB⟩⟩
                   ·rw [if_neg c53] at H
                    exact absurd H (by simp)
                  ·rw [if_neg c52] at H
                   exact absurd H (by simp)
             ·rw [if_neg c31] at H
              have c31b0 : decide (0 < x47_2) = false := decide_eq_false c31
              clear c31
              have H' := Aside0.mk H
              clear H
              have p109 : 0 ≤ (x47_2 : Int) := of_decide_eq_true as_
              have q109 : x47_2 < (l0_0.length : Int) := of_decide_eq_true as_
              obtain ⟨ad109, e109, hx109_0, hx109_1, hx109_2, hx109_3, hx109_4, hx109_5, hx109_6⟩ := at_T69b HR0_0 HB x47_2 p109 q109
              obtain rfl : ad104 = ad109 := (by injection e109)
              replace p109 := eq_true p109
              replace q109 := eq_true q109
              go_wp2_with (first | ((with_reducible refine gate_dst (N := 6) rfl ?_); (try (refine gate_guard (by rfl) ?_; dsimp only)); refine be_ (N := 6) (cs := #[.int .i64 0, .int .i64 0, .int .i64 0, .int .i64 0, .int .i64 0, .string (⟨#[]⟩ : ByteArray), .string (⟨#[]⟩ : ByteArray)]) (t := 69) (h := ?_); intro gb110 hg w63 hbox hb; have BK110 := Aside0.mk (hbox); have GW110 := gw_ HB hg; have GE110 := gw_ HB hg; have NB102_110 := ne_ BK102 hg; have NB110_102 := en_ BK102 hg; have NB105_110 := ne_ BK105 hg; have NB110_105 := en_ BK105 hg; replace HO_4 := Aside0.mk (Kd.R_below (rw_ HO_4.out) hb); replace BK102 := bb_ BK102 hb; replace BK105 := bb_ BK105 hb; replace HB := bs_ HB hb; clear hb hbox hg; have hnb64 := NB110_102.out; have hnc64 := NB102_110.out; have hnb65 := NB110_105.out; have hnc65 := NB105_110.out; obtain ⟨hcz66_0, hcz66_1, hcz66_2, hcz66_3, hcz66_4, hcz66_5, hcz66_6, hfz66_0, hfz66_1, hfz66_2, hfz66_3, hfz66_4, hfz66_5, hfz66_6⟩ := bc7_ BK110))
              go_roundg k2
              case measure => have := HJ1.out; have := HK2.out; omega
              case rel => exact ⟨(x4_2), (wrap64 (x47_2 + 1)), es_, H', ⟨by have := HJ1.out; have := HK2.out; omega⟩, ⟨by (with_reducible repeat (first | apply Kd.R_alloc | apply Kd.R_drewN | apply Kd.R_drew)); exact Kd.R_mono (rf_ (Kd.R_types HO_4.out BK110.out (by decide)) (fun _ hk => hk.2)) (fun _ hk => trivial)⟩, ⟨bp_ BK102.out⟩, ⟨bp_ BK105.out⟩, ⟨hb_ HB⟩⟩
            ·rw [if_neg c30] at H
             exact absurd H (by simp)
           ·rw [if_neg c29] at H
            exact absurd H (by simp)
          ·rw [if_neg c28] at H
           have c28b0 : decide (x47_2 < (l0_0.length : Int)) = false := decide_eq_false c28
           clear c28
           have H' := Aside0.mk H
           clear H
           have hnb67 := NB102_105.out
           have hnc67 := NB105_102.out
           obtain ⟨hcz68_0, hcz68_1, hfz68_0, hfz68_1⟩ := bc2_ BK102
           go_wp2
           go_loopg [82] k2 (fun kq v82 w' => ∃ (x82_3 : Int), v82 = .int .i64 x82_3 ∧ Aside0 (tree_check.l1 kq x4_2 l0_0 (l0_0.length : Int) x82_3 l0_0 a0_1 = some r) ∧ Aside0 (kq ≤ k2) ∧ Aside0 (Kd.R Kd.bool 4 w' w.heap.size (fun _ => True) v107 x4_2) ∧ Aside0 (w'.heap[gb102]? = some (.cells #[(.slice (some ad104) l0_0.length c0_0), .int .i64 a0_1] 102 (0, 0))) ∧ Aside0 (w'.heap[gb105]? = some (.cells #[.int .i64 ((rd_T69 l0_0 0).f0), .int .i64 (-1), .int .i64 ((rd_T69 l0_0 0).f2), .int .i64 ((rd_T69 l0_0 0).f3), .int .i64 ((rd_T69 l0_0 0).f4.f0), .string ((rd_T69 l0_0 0).f4.f1), .string ((rd_T69 l0_0 0).f4.f2)] 69 (0, 0))) ∧ Aside0 (Below w.heap.size w w'))
           case atStart => exact ⟨(0), es_, H', ⟨Nat.le_refl _⟩, ⟨rw_ HO_4.out⟩, ⟨bw_ BK102.out⟩, ⟨bw_ BK105.out⟩, ⟨hb_ HB⟩⟩
           case round =>
            clear H'
            try clear c11
            try clear c12
            try clear c12b0
            try clear c12b1
            try clear c13
            try clear c13b0
            try clear c18
            try clear c18b0
            try clear c18b1
            try clear c19
            try clear c19b0
            try clear c19b1
            try clear c28
            try clear c28b0
            try clear hcz20_0
            try clear hcz20_1
            try clear hcz23_0
            try clear hcz23_1
            try clear hcz23_2
            try clear hcz23_3
            try clear hcz23_4
            try clear hcz23_5
            try clear hcz23_6
            try clear hcz24_0
            try clear hcz24_1
            try clear hcz27_0
            try clear hcz27_1
            try clear hcz68_0
            try clear hcz68_1
            try clear hfz20_0
            try clear hfz20_1
            try clear hfz23_0
            try clear hfz23_1
            try clear hfz23_2
            try clear hfz23_3
            try clear hfz23_4
            try clear hfz23_5
            try clear hfz23_6
            try clear hfz24_0
            try clear hfz24_1
            try clear hfz27_0
            try clear hfz27_1
            try clear hfz68_0
            try clear hfz68_1
            try clear hx104_0
            try clear hx104_1
            try clear hx104_2
            try clear hx104_3
            try clear hx104_4
            try clear hx104_5
            try clear hx104_6
            try clear p104
            try clear q104
            obtain ⟨x82_3, rfl, HA, HK3, HO_4, BK102, BK105, HB⟩ := hrel
            cases gk with
            | zero => exact absurd HA.out (by simp [tree_check.l1])
            | succ k3 =>
             have H := HA.out
             clear HA
             simp only [tree_check.l1] at H
             by_cases c69 : x82_3 < (l0_0.length : Int)
             ·rw [if_pos c69] at H
              have c69b0 : decide (x82_3 < (l0_0.length : Int)) = true := decide_eq_true c69
              clear c69
              by_cases c70 : 0 ≤ x82_3
              ·rw [if_pos c70] at H
               have c70b0 : decide (0 ≤ x82_3) = true := decide_eq_true c70
               clear c70
               by_cases c71 : x82_3 < (l0_0.length : Int)
               ·rw [if_pos c71] at H
                have c71b0 : decide (x82_3 < (l0_0.length : Int)) = true := decide_eq_true c71
                clear c71
                by_cases c72 : x82_3 < (x4_2.length : Int)
                ·rw [if_pos c72] at H
                 have c72b0 : decide (x82_3 < (x4_2.length : Int)) = true := decide_eq_true c72
                 clear c72
                 obtain ⟨bq73, hbq73⟩ : ∃ b_ : Bool, b_ = (rdOf false x4_2 x82_3) := ⟨_, rfl⟩
                 replace H : (if bq73 = true then ((tree_book_has.f l0_0 a0_1 ((rd_T69 l0_0 x82_3).f1)).bind fun t115 => (if t115 = true then (if 0 ≤ ((rd_T69 l0_0 x82_3).f1) then (if ((rd_T69 l0_0 x82_3).f1) < (l0_0.length : Int) then (if ((rd_T69 l0_0 ((rd_T69 l0_0 x82_3).f1)).f0) = x82_3 then (tree_check.l1 k3 x4_2 l0_0 (l0_0.length : Int) (wrap64 (x82_3 + 1)) l0_0 a0_1) else (some false)) else (none)) else (none)) else (some false))) else (if ((rd_T69 l0_0 x82_3).f1) = (-1) then (tree_check.l1 k3 x4_2 l0_0 (l0_0.length : Int) (wrap64 (x82_3 + 1)) l0_0 a0_1) else (some false))) = some r := by rw [← hbq73] at H; exact H
                 have Nbq73 := Aside0.mk hbq73
                 clear hbq73
                 by_cases c74 : bq73 = true
                 ·subst c74
                  have H1 : ((tree_book_has.f l0_0 a0_1 ((rd_T69 l0_0 x82_3).f1)).bind fun t115 => (if t115 = true then (if 0 ≤ ((rd_T69 l0_0 x82_3).f1) then (if ((rd_T69 l0_0 x82_3).f1) < (l0_0.length : Int) then (if ((rd_T69 l0_0 ((rd_T69 l0_0 x82_3).f1)).f0) = x82_3 then (tree_check.l1 k3 x4_2 l0_0 (l0_0.length : Int) (wrap64 (x82_3 + 1)) l0_0 a0_1) else (some false)) else (none)) else (none)) else (some false))) = some r := by rw [if_pos rfl] at H; exact H
                  clear H
                  have H := H1
                  clear H1
                  replace H := Option.bind_eq_some_iff.mp H
                  obtain ⟨t115, A750, H⟩ := H
                  replace H : (if t115 = true then (if 0 ≤ ((rd_T69 l0_0 x82_3).f1) then (if ((rd_T69 l0_0 x82_3).f1) < (l0_0.length : Int) then (if ((rd_T69 l0_0 ((rd_T69 l0_0 x82_3).f1)).f0) = x82_3 then (tree_check.l1 k3 x4_2 l0_0 (l0_0.length : Int) (wrap64 (x82_3 + 1)) l0_0 a0_1) else (some false)) else (none)) else (none)) else (some false)) = some r := H
                  have A75 := Aside0.mk A750
                  clear A750
                  by_cases c76 : t115 = true
                  ·subst c76
                   have H1 : (if 0 ≤ ((rd_T69 l0_0 x82_3).f1) then (if ((rd_T69 l0_0 x82_3).f1) < (l0_0.length : Int) then (if ((rd_T69 l0_0 ((rd_T69 l0_0 x82_3).f1)).f0) = x82_3 then (tree_check.l1 k3 x4_2 l0_0 (l0_0.length : Int) (wrap64 (x82_3 + 1)) l0_0 a0_1) else (some false)) else (none)) else (none)) = some r := by rw [if_pos rfl] at H; exact H
                   clear H
                   have H := H1
                   clear H1
                   by_cases c77 : 0 ≤ ((rd_T69 l0_0 x82_3).f1)
                   ·rw [if_pos c77] at H
                    have c77b0 : decide (0 ≤ ((rd_T69 l0_0 x82_3).f1)) = true := decide_eq_true c77
                    clear c77
                    by_cases c78 : ((rd_T69 l0_0 x82_3).f1) < (l0_0.length : Int)
                    ·rw [if_pos c78] at H
                     have c78b0 : decide (((rd_T69 l0_0 x82_3).f1) < (l0_0.length : Int)) = true := decide_eq_true c78
                     clear c78
                     by_cases c79 : ((rd_T69 l0_0 ((rd_T69 l0_0 x82_3).f1)).f0) = x82_3
                     ·rw [if_pos c79] at H
                      have c79b0 : (((rd_T69 l0_0 ((rd_T69 l0_0 x82_3).f1)).f0) == x82_3) = true := beq_iff_eq.mpr c79
                      have c79b1 : (((rd_T69 l0_0 ((rd_T69 l0_0 x82_3).f1)).f0) != x82_3) = false := bne_eq_false_iff_eq.mpr c79
                      clear c79
                      have H' := Aside0.mk H
                      clear H
                      have p112 : 0 ≤ (x82_3 : Int) := of_decide_eq_true as_
                      have q112 : x82_3 < (l0_0.length : Int) := of_decide_eq_true as_
                      obtain ⟨ad112, e112, hx112_0, hx112_1, hx112_2, hx112_3, hx112_4, hx112_5, hx112_6⟩ := at_T69b HR0_0 HB x82_3 p112 q112
                      obtain rfl : ad104 = ad112 := (by injection e112)
                      replace p112 := eq_true p112
                      replace q112 := eq_true q112
                      go_wp2_with (first | ((with_reducible refine gate_dst (N := 8) rfl ?_); (try (refine gate_guard (by rfl) ?_; dsimp only)); refine be_ (N := 8) (cs := #[.int .i64 0, .int .i64 0, .int .i64 0, .int .i64 0, .int .i64 0, .string (⟨#[]⟩ : ByteArray), .string (⟨#[]⟩ : ByteArray)]) (t := 69) (h := ?_); intro gb113 hg w80 hbox hb; have BK113 := Aside0.mk (hbox); have GW113 := gw_ HB hg; have GE113 := gw_ HB hg; have NB102_113 := ne_ BK102 hg; have NB113_102 := en_ BK102 hg; have NB105_113 := ne_ BK105 hg; have NB113_105 := en_ BK105 hg; replace HO_4 := Aside0.mk (Kd.R_below (rw_ HO_4.out) hb); replace BK102 := bb_ BK102 hb; replace BK105 := bb_ BK105 hb; replace HB := bs_ HB hb; clear hb hbox hg; have hnb81 := NB113_102.out; have hnc81 := NB102_113.out; have hnb82 := NB113_105.out; have hnc82 := NB105_113.out; obtain ⟨hcz83_0, hcz83_1, hcz83_2, hcz83_3, hcz83_4, hcz83_5, hcz83_6, hfz83_0, hfz83_1, hfz83_2, hfz83_3, hfz83_4, hfz83_5, hfz83_6⟩ := bc7_ BK113; obtain ⟨Ao84, co84, eo84⟩ := Kd.R_slice HO_4.out; subst eo84; have p114 : 0 ≤ (x82_3 : Int) := of_decide_eq_true as_; have q114 : x82_3 < (x4_2.length : Int) := of_decide_eq_true as_; obtain ⟨ad114, e114, hx114_0⟩ := Kd.at_bool (Kd.R_reads' HO_4.out).2.2 x82_3 p114 q114; (try rw [← Nbq73.out] at hx114_0); cases e114; have hn114_0 : ad114.block ≠ gb113 := Kd.own_blk (Kd.R_ne HO_4.out BK113.out (by decide)); have hn114_1 : ad114.block ≠ gb113 := Kd.own_blk (Kd.R_ne HO_4.out BK113.out (by decide)); have hn114_2 : ad114.block ≠ gb113 := Kd.own_blk (Kd.R_ne HO_4.out BK113.out (by decide)); have hn114_3 : ad114.block ≠ gb113 := Kd.own_blk (Kd.R_ne HO_4.out BK113.out (by decide)); have hn114_4 : ad114.block ≠ gb113 := Kd.own_blk (Kd.R_ne HO_4.out BK113.out (by decide)); have hn114_5 : ad114.block ≠ gb113 := Kd.own_blk (Kd.R_ne HO_4.out BK113.out (by decide)); have hn114_6 : ad114.block ≠ gb113 := Kd.own_blk (Kd.R_ne HO_4.out BK113.out (by decide)); replace hx114_0 := (cell_far (p := ⟨gb113, 0, none⟩) (by first | (rw [add_block]; exact hn114_0) | (show (Addr.add _ _).block ≠ _; rw [add_block]; exact hn114_0) | exact hn114_0) (.int .i64 ((rd_T69 l0_0 x82_3).f0))).trans hx114_0; replace hx114_0 := (cell_far (p := ⟨gb113, 1, none⟩) (by first | (rw [add_block]; exact hn114_1) | (show (Addr.add _ _).block ≠ _; rw [add_block]; exact hn114_1) | exact hn114_1) (.int .i64 ((rd_T69 l0_0 x82_3).f1))).trans hx114_0; replace hx114_0 := (cell_far (p := ⟨gb113, 2, none⟩) (by first | (rw [add_block]; exact hn114_2) | (show (Addr.add _ _).block ≠ _; rw [add_block]; exact hn114_2) | exact hn114_2) (.int .i64 ((rd_T69 l0_0 x82_3).f2))).trans hx114_0; replace hx114_0 := (cell_far (p := ⟨gb113, 3, none⟩) (by first | (rw [add_block]; exact hn114_3) | (show (Addr.add _ _).block ≠ _; rw [add_block]; exact hn114_3) | exact hn114_3) (.int .i64 ((rd_T69 l0_0 x82_3).f3))).trans hx114_0; replace hx114_0 := (cell_far (p := ⟨gb113, 4, none⟩) (by first | (rw [add_block]; exact hn114_4) | (show (Addr.add _ _).block ≠ _; rw [add_block]; exact hn114_4) | exact hn114_4) (.int .i64 ((rd_T69 l0_0 x82_3).f4.f0))).trans hx114_0; replace hx114_0 := (cell_far (p := ⟨gb113, 5, none⟩) (by first | (rw [add_block]; exact hn114_5) | (show (Addr.add _ _).block ≠ _; rw [add_block]; exact hn114_5) | exact hn114_5) (.string ((rd_T69 l0_0 x82_3).f4.f1))).trans hx114_0; replace hx114_0 := (cell_far (p := ⟨gb113, 6, none⟩) (by first | (rw [add_block]; exact hn114_6) | (show (Addr.add _ _).block ≠ _; rw [add_block]; exact hn114_6) | exact hn114_6) (.string ((rd_T69 l0_0 x82_3).f4.f2))).trans hx114_0; clear hn114_0; clear hn114_1; clear hn114_2; clear hn114_3; clear hn114_4; clear hn114_5; clear hn114_6; replace p114 := eq_true p114; replace q114 := eq_true q114; have hnb85 := NB102_105.out; have hnc85 := NB105_102.out; obtain ⟨hcz86_0, hcz86_1, hfz86_0, hfz86_1⟩ := bc2_ BK102) | (go_at_call 85; (with_reducible refine (tree_book_has.calls _ _ l0_0 a0_1 ((rd_T69 l0_0 x82_3).f1) true _ ?side1 ?side2 A75.out).mono ?_); (case side1 => exact Kd.C_below HR0_0.out (hb_ HB)); (case side2 => exact HC0_0.out); rintro e w87 ⟨rfl, hb⟩; replace HO_4 := Aside0.mk (Kd.R_below (by (with_reducible repeat (first | apply Kd.R_alloc | apply Kd.R_drewN | apply Kd.R_drew)); exact (Kd.R_mono (rf_ (Kd.R_types HO_4.out BK113.out (by decide)) (fun _ hk => hk.2)) (fun _ h_ => h_.1))) hb); replace BK102 := Aside0.mk (blk_below (g := gb102) (o := .cells #[.slice (some ad104) l0_0.length c0_0, .int .i64 a0_1] 102 (0, 0)) (bp_ BK102.out) hb); replace BK105 := Aside0.mk (blk_below (g := gb105) (o := .cells #[.int .i64 ((rd_T69 l0_0 0).f0), .int .i64 (-1), .int .i64 ((rd_T69 l0_0 0).f2), .int .i64 ((rd_T69 l0_0 0).f3), .int .i64 ((rd_T69 l0_0 0).f4.f0), .string ((rd_T69 l0_0 0).f4.f1), .string ((rd_T69 l0_0 0).f4.f2)] 69 (0, 0)) (bp_ BK105.out) hb); replace HB := bs_ HB hb; replace BK113 := Aside0.mk (blk_below (g := gb113) (o := .cells #[.int .i64 ((rd_T69 l0_0 x82_3).f0), .int .i64 ((rd_T69 l0_0 x82_3).f1), .int .i64 ((rd_T69 l0_0 x82_3).f2), .int .i64 ((rd_T69 l0_0 x82_3).f3), .int .i64 ((rd_T69 l0_0 x82_3).f4.f0), .string ((rd_T69 l0_0 x82_3).f4.f1), .string ((rd_T69 l0_0 x82_3).f4.f2)] 69 (0, 0)) (bp_ BK113.out) hb); (try clear hb); (try clear hb2); (try clear hk); (try clear hi); obtain ⟨hcz88_0, hcz88_1, hfz88_0, hfz88_1⟩ := bc2_ BK102; obtain ⟨hcz89_0, hcz89_1, hcz89_2, hcz89_3, hcz89_4, hcz89_5, hcz89_6, hfz89_0, hfz89_1, hfz89_2, hfz89_3, hfz89_4, hfz89_5, hfz89_6⟩ := bc7_ BK113; have p116 : 0 ≤ (((rd_T69 l0_0 x82_3).f1) : Int) := of_decide_eq_true as_; have q116 : ((rd_T69 l0_0 x82_3).f1) < (l0_0.length : Int) := of_decide_eq_true as_; obtain ⟨ad116, e116, hx116_0, hx116_1, hx116_2, hx116_3, hx116_4, hx116_5, hx116_6⟩ := at_T69 HR0_0.out ((rd_T69 l0_0 x82_3).f1) p116 q116; obtain rfl : ad104 = ad116 := (by injection e116); replace hx116_0 := cb_ HB hx116_0; replace hx116_1 := cb_ HB hx116_1; replace hx116_2 := cb_ HB hx116_2; replace hx116_3 := cb_ HB hx116_3; replace hx116_4 := cb_ HB hx116_4; replace hx116_5 := cb_ HB hx116_5; replace hx116_6 := cb_ HB hx116_6; replace p116 := eq_true p116; replace q116 := eq_true q116; have p117 : 0 ≤ (x82_3 : Int) := of_decide_eq_true as_; have q117 : x82_3 < (x4_2.length : Int) := of_decide_eq_true as_; obtain ⟨ad117, e117, hx117_0⟩ := Kd.at_bool (Kd.R_reads' HO_4.out).2.2 x82_3 p117 q117; (try rw [← Nbq73.out] at hx117_0); obtain rfl : ad114 = ad117 := (by injection e117); replace p117 := eq_true p117; replace q117 := eq_true q117))
                      go_roundg k3
                      case measure => have := HJ1.out; have := HK2.out; have := HK3.out; omega
                      case rel => exact ⟨(wrap64 (x82_3 + 1)), es_, H', ⟨by have := HJ1.out; have := HK2.out; have := HK3.out; omega⟩, ⟨rw_ HO_4.out⟩, ⟨bw_ BK102.out⟩, ⟨bw_ BK105.out⟩, ⟨hb_ HB⟩⟩
                     ·rw [if_neg c79] at H
                      have c79b0 : (((rd_T69 l0_0 ((rd_T69 l0_0 x82_3).f1)).f0) == x82_3) = false := beq_eq_false_iff_ne.mpr c79
                      have c79b1 : (((rd_T69 l0_0 ((rd_T69 l0_0 x82_3).f1)).f0) != x82_3) = true := bne_iff_ne.mpr c79
                      obtain rfl := Option.some.inj H
                      have p112 : 0 ≤ (x82_3 : Int) := of_decide_eq_true as_
                      have q112 : x82_3 < (l0_0.length : Int) := of_decide_eq_true as_
                      obtain ⟨ad112, e112, hx112_0, hx112_1, hx112_2, hx112_3, hx112_4, hx112_5, hx112_6⟩ := at_T69b HR0_0 HB x82_3 p112 q112
                      obtain rfl : ad104 = ad112 := (by injection e112)
                      replace p112 := eq_true p112
                      replace q112 := eq_true q112
                      go_wp2_with (first | ((with_reducible refine gate_dst (N := 8) rfl ?_); (try (refine gate_guard (by rfl) ?_; dsimp only)); refine be_ (N := 8) (cs := #[.int .i64 0, .int .i64 0, .int .i64 0, .int .i64 0, .int .i64 0, .string (⟨#[]⟩ : ByteArray), .string (⟨#[]⟩ : ByteArray)]) (t := 69) (h := ?_); intro gb113 hg w90 hbox hb; have BK113 := Aside0.mk (hbox); have GW113 := gw_ HB hg; have GE113 := gw_ HB hg; have NB102_113 := ne_ BK102 hg; have NB113_102 := en_ BK102 hg; have NB105_113 := ne_ BK105 hg; have NB113_105 := en_ BK105 hg; replace HO_4 := Aside0.mk (Kd.R_below (rw_ HO_4.out) hb); replace BK102 := bb_ BK102 hb; replace BK105 := bb_ BK105 hb; replace HB := bs_ HB hb; clear hb hbox hg; have hnb91 := NB113_102.out; have hnc91 := NB102_113.out; have hnb92 := NB113_105.out; have hnc92 := NB105_113.out; obtain ⟨hcz93_0, hcz93_1, hcz93_2, hcz93_3, hcz93_4, hcz93_5, hcz93_6, hfz93_0, hfz93_1, hfz93_2, hfz93_3, hfz93_4, hfz93_5, hfz93_6⟩ := bc7_ BK113; obtain ⟨Ao94, co94, eo94⟩ := Kd.R_slice HO_4.out; subst eo94; have p114 : 0 ≤ (x82_3 : Int) := of_decide_eq_true as_; have q114 : x82_3 < (x4_2.length : Int) := of_decide_eq_true as_; obtain ⟨ad114, e114, hx114_0⟩ := Kd.at_bool (Kd.R_reads' HO_4.out).2.2 x82_3 p114 q114; (try rw [← Nbq73.out] at hx114_0); cases e114; have hn114_0 : ad114.block ≠ gb113 := Kd.own_blk (Kd.R_ne HO_4.out BK113.out (by decide)); have hn114_1 : ad114.block ≠ gb113 := Kd.own_blk (Kd.R_ne HO_4.out BK113.out (by decide)); have hn114_2 : ad114.block ≠ gb113 := Kd.own_blk (Kd.R_ne HO_4.out BK113.out (by decide)); have hn114_3 : ad114.block ≠ gb113 := Kd.own_blk (Kd.R_ne HO_4.out BK113.out (by decide)); have hn114_4 : ad114.block ≠ gb113 := Kd.own_blk (Kd.R_ne HO_4.out BK113.out (by decide)); have hn114_5 : ad114.block ≠ gb113 := Kd.own_blk (Kd.R_ne HO_4.out BK113.out (by decide)); have hn114_6 : ad114.block ≠ gb113 := Kd.own_blk (Kd.R_ne HO_4.out BK113.out (by decide)); replace hx114_0 := (cell_far (p := ⟨gb113, 0, none⟩) (by first | (rw [add_block]; exact hn114_0) | (show (Addr.add _ _).block ≠ _; rw [add_block]; exact hn114_0) | exact hn114_0) (.int .i64 ((rd_T69 l0_0 x82_3).f0))).trans hx114_0; replace hx114_0 := (cell_far (p := ⟨gb113, 1, none⟩) (by first | (rw [add_block]; exact hn114_1) | (show (Addr.add _ _).block ≠ _; rw [add_block]; exact hn114_1) | exact hn114_1) (.int .i64 ((rd_T69 l0_0 x82_3).f1))).trans hx114_0; replace hx114_0 := (cell_far (p := ⟨gb113, 2, none⟩) (by first | (rw [add_block]; exact hn114_2) | (show (Addr.add _ _).block ≠ _; rw [add_block]; exact hn114_2) | exact hn114_2) (.int .i64 ((rd_T69 l0_0 x82_3).f2))).trans hx114_0; replace hx114_0 := (cell_far (p := ⟨gb113, 3, none⟩) (by first | (rw [add_block]; exact hn114_3) | (show (Addr.add _ _).block ≠ _; rw [add_block]; exact hn114_3) | exact hn114_3) (.int .i64 ((rd_T69 l0_0 x82_3).f3))).trans hx114_0; replace hx114_0 := (cell_far (p := ⟨gb113, 4, none⟩) (by first | (rw [add_block]; exact hn114_4) | (show (Addr.add _ _).block ≠ _; rw [add_block]; exact hn114_4) | exact hn114_4) (.int .i64 ((rd_T69 l0_0 x82_3).f4.f0))).trans hx114_0; replace hx114_0 := (cell_far (p := ⟨gb113, 5, none⟩) (by first | (rw [add_block]; exact hn114_5) | (show (Addr.add _ _).block ≠ _; rw [add_block]; exact hn114_5) | exact hn114_5) (.string ((rd_T69 l0_0 x82_3).f4.f1))).trans hx114_0; replace hx114_0 := (cell_far (p := ⟨gb113, 6, none⟩) (by first | (rw [add_block]; exact hn114_6) | (show (Addr.add _ _).block ≠ _; rw [add_block]; exact hn114_6) | exact hn114_6) (.string ((rd_T69 l0_0 x82_3).f4.f2))).trans hx114_0; clear hn114_0; clear hn114_1; clear hn114_2; clear hn114_3; clear hn114_4; clear hn114_5; clear hn114_6; replace p114 := eq_true p114; replace q114 := eq_true q114; have hnb95 := NB102_105.out; have hnc95 := NB105_102.out; obtain ⟨hcz96_0, hcz96_1, hfz96_0, hfz96_1⟩ := bc2_ BK102) | (go_at_call 85; (with_reducible refine (tree_book_has.calls _ _ l0_0 a0_1 ((rd_T69 l0_0 x82_3).f1) true _ ?side1 ?side2 A75.out).mono ?_); (case side1 => exact Kd.C_below HR0_0.out (hb_ HB)); (case side2 => exact HC0_0.out); rintro e w97 ⟨rfl, hb⟩; replace HO_4 := Aside0.mk (Kd.R_below (by (with_reducible repeat (first | apply Kd.R_alloc | apply Kd.R_drewN | apply Kd.R_drew)); exact (Kd.R_mono (rf_ (Kd.R_types HO_4.out BK113.out (by decide)) (fun _ hk => hk.2)) (fun _ h_ => h_.1))) hb); replace BK102 := Aside0.mk (blk_below (g := gb102) (o := .cells #[.slice (some ad104) l0_0.length c0_0, .int .i64 a0_1] 102 (0, 0)) (bp_ BK102.out) hb); replace BK105 := Aside0.mk (blk_below (g := gb105) (o := .cells #[.int .i64 ((rd_T69 l0_0 0).f0), .int .i64 (-1), .int .i64 ((rd_T69 l0_0 0).f2), .int .i64 ((rd_T69 l0_0 0).f3), .int .i64 ((rd_T69 l0_0 0).f4.f0), .string ((rd_T69 l0_0 0).f4.f1), .string ((rd_T69 l0_0 0).f4.f2)] 69 (0, 0)) (bp_ BK105.out) hb); replace HB := bs_ HB hb; replace BK113 := Aside0.mk (blk_below (g := gb113) (o := .cells #[.int .i64 ((rd_T69 l0_0 x82_3).f0), .int .i64 ((rd_T69 l0_0 x82_3).f1), .int .i64 ((rd_T69 l0_0 x82_3).f2), .int .i64 ((rd_T69 l0_0 x82_3).f3), .int .i64 ((rd_T69 l0_0 x82_3).f4.f0), .string ((rd_T69 l0_0 x82_3).f4.f1), .string ((rd_T69 l0_0 x82_3).f4.f2)] 69 (0, 0)) (bp_ BK113.out) hb); (try clear hb); (try clear hb2); (try clear hk); (try clear hi); obtain ⟨hcz98_0, hcz98_1, hfz98_0, hfz98_1⟩ := bc2_ BK102; obtain ⟨hcz99_0, hcz99_1, hcz99_2, hcz99_3, hcz99_4, hcz99_5, hcz99_6, hfz99_0, hfz99_1, hfz99_2, hfz99_3, hfz99_4, hfz99_5, hfz99_6⟩ := bc7_ BK113; have p116 : 0 ≤ (((rd_T69 l0_0 x82_3).f1) : Int) := of_decide_eq_true as_; have q116 : ((rd_T69 l0_0 x82_3).f1) < (l0_0.length : Int) := of_decide_eq_true as_; obtain ⟨ad116, e116, hx116_0, hx116_1, hx116_2, hx116_3, hx116_4, hx116_5, hx116_6⟩ := at_T69 HR0_0.out ((rd_T69 l0_0 x82_3).f1) p116 q116; obtain rfl : ad104 = ad116 := (by injection e116); replace hx116_0 := cb_ HB hx116_0; replace hx116_1 := cb_ HB hx116_1; replace hx116_2 := cb_ HB hx116_2; replace hx116_3 := cb_ HB hx116_3; replace hx116_4 := cb_ HB hx116_4; replace hx116_5 := cb_ HB hx116_5; replace hx116_6 := cb_ HB hx116_6; replace p116 := eq_true p116; replace q116 := eq_true q116))
                      go_ret
                      exact ⟨er_, hb_ HB⟩
                    ·rw [if_neg c78] at H
                     exact absurd H (by simp)
                   ·rw [if_neg c77] at H
                    exact absurd H (by simp)
                  ·replace c76 := Bool.eq_false_iff.mpr c76
                   subst c76
                   have H1 : (some false) = some r := by rw [if_neg (show ¬ (false = true) by decide)] at H; exact H
                   clear H
                   have H := H1
                   clear H1
                   obtain rfl := Option.some.inj H
                   have p112 : 0 ≤ (x82_3 : Int) := of_decide_eq_true as_
                   have q112 : x82_3 < (l0_0.length : Int) := of_decide_eq_true as_
                   obtain ⟨ad112, e112, hx112_0, hx112_1, hx112_2, hx112_3, hx112_4, hx112_5, hx112_6⟩ := at_T69b HR0_0 HB x82_3 p112 q112
                   obtain rfl : ad104 = ad112 := (by injection e112)
                   replace p112 := eq_true p112
                   replace q112 := eq_true q112
                   go_wp2_with (first | ((with_reducible refine gate_dst (N := 8) rfl ?_); (try (refine gate_guard (by rfl) ?_; dsimp only)); refine be_ (N := 8) (cs := #[.int .i64 0, .int .i64 0, .int .i64 0, .int .i64 0, .int .i64 0, .string (⟨#[]⟩ : ByteArray), .string (⟨#[]⟩ : ByteArray)]) (t := 69) (h := ?_); intro gb113 hg w100 hbox hb; have BK113 := Aside0.mk (hbox); have GW113 := gw_ HB hg; have GE113 := gw_ HB hg; have NB102_113 := ne_ BK102 hg; have NB113_102 := en_ BK102 hg; have NB105_113 := ne_ BK105 hg; have NB113_105 := en_ BK105 hg; replace HO_4 := Aside0.mk (Kd.R_below (rw_ HO_4.out) hb); replace BK102 := bb_ BK102 hb; replace BK105 := bb_ BK105 hb; replace HB := bs_ HB hb; clear hb hbox hg; have hnb101 := NB113_102.out; have hnc101 := NB102_113.out; have hnb102 := NB113_105.out; have hnc102 := NB105_113.out; obtain ⟨hcz103_0, hcz103_1, hcz103_2, hcz103_3, hcz103_4, hcz103_5, hcz103_6, hfz103_0, hfz103_1, hfz103_2, hfz103_3, hfz103_4, hfz103_5, hfz103_6⟩ := bc7_ BK113; obtain ⟨Ao104, co104, eo104⟩ := Kd.R_slice HO_4.out; subst eo104; have p114 : 0 ≤ (x82_3 : Int) := of_decide_eq_true as_; have q114 : x82_3 < (x4_2.length : Int) := of_decide_eq_true as_; obtain ⟨ad114, e114, hx114_0⟩ := Kd.at_bool (Kd.R_reads' HO_4.out).2.2 x82_3 p114 q114; (try rw [← Nbq73.out] at hx114_0); cases e114; have hn114_0 : ad114.block ≠ gb113 := Kd.own_blk (Kd.R_ne HO_4.out BK113.out (by decide)); have hn114_1 : ad114.block ≠ gb113 := Kd.own_blk (Kd.R_ne HO_4.out BK113.out (by decide)); have hn114_2 : ad114.block ≠ gb113 := Kd.own_blk (Kd.R_ne HO_4.out BK113.out (by decide)); have hn114_3 : ad114.block ≠ gb113 := Kd.own_blk (Kd.R_ne HO_4.out BK113.out (by decide)); have hn114_4 : ad114.block ≠ gb113 := Kd.own_blk (Kd.R_ne HO_4.out BK113.out (by decide)); have hn114_5 : ad114.block ≠ gb113 := Kd.own_blk (Kd.R_ne HO_4.out BK113.out (by decide)); have hn114_6 : ad114.block ≠ gb113 := Kd.own_blk (Kd.R_ne HO_4.out BK113.out (by decide)); replace hx114_0 := (cell_far (p := ⟨gb113, 0, none⟩) (by first | (rw [add_block]; exact hn114_0) | (show (Addr.add _ _).block ≠ _; rw [add_block]; exact hn114_0) | exact hn114_0) (.int .i64 ((rd_T69 l0_0 x82_3).f0))).trans hx114_0; replace hx114_0 := (cell_far (p := ⟨gb113, 1, none⟩) (by first | (rw [add_block]; exact hn114_1) | (show (Addr.add _ _).block ≠ _; rw [add_block]; exact hn114_1) | exact hn114_1) (.int .i64 ((rd_T69 l0_0 x82_3).f1))).trans hx114_0; replace hx114_0 := (cell_far (p := ⟨gb113, 2, none⟩) (by first | (rw [add_block]; exact hn114_2) | (show (Addr.add _ _).block ≠ _; rw [add_block]; exact hn114_2) | exact hn114_2) (.int .i64 ((rd_T69 l0_0 x82_3).f2))).trans hx114_0; replace hx114_0 := (cell_far (p := ⟨gb113, 3, none⟩) (by first | (rw [add_block]; exact hn114_3) | (show (Addr.add _ _).block ≠ _; rw [add_block]; exact hn114_3) | exact hn114_3) (.int .i64 ((rd_T69 l0_0 x82_3).f3))).trans hx114_0; replace hx114_0 := (cell_far (p := ⟨gb113, 4, none⟩) (by first | (rw [add_block]; exact hn114_4) | (show (Addr.add _ _).block ≠ _; rw [add_block]; exact hn114_4) | exact hn114_4) (.int .i64 ((rd_T69 l0_0 x82_3).f4.f0))).trans hx114_0; replace hx114_0 := (cell_far (p := ⟨gb113, 5, none⟩) (by first | (rw [add_block]; exact hn114_5) | (show (Addr.add _ _).block ≠ _; rw [add_block]; exact hn114_5) | exact hn114_5) (.string ((rd_T69 l0_0 x82_3).f4.f1))).trans hx114_0; replace hx114_0 := (cell_far (p := ⟨gb113, 6, none⟩) (by first | (rw [add_block]; exact hn114_6) | (show (Addr.add _ _).block ≠ _; rw [add_block]; exact hn114_6) | exact hn114_6) (.string ((rd_T69 l0_0 x82_3).f4.f2))).trans hx114_0; clear hn114_0; clear hn114_1; clear hn114_2; clear hn114_3; clear hn114_4; clear hn114_5; clear hn114_6; replace p114 := eq_true p114; replace q114 := eq_true q114; have hnb105 := NB102_105.out; have hnc105 := NB105_102.out; obtain ⟨hcz106_0, hcz106_1, hfz106_0, hfz106_1⟩ := bc2_ BK102) | (go_at_call 85; (with_reducible refine (tree_book_has.calls _ _ l0_0 a0_1 ((rd_T69 l0_0 x82_3).f1) false _ ?side1 ?side2 A75.out).mono ?_); (case side1 => exact Kd.C_below HR0_0.out (hb_ HB)); (case side2 => exact HC0_0.out); rintro e w107 ⟨rfl, hb⟩; replace HO_4 := Aside0.mk (Kd.R_below (by (with_reducible repeat (first | apply Kd.R_alloc | apply Kd.R_drewN | apply Kd.R_drew)); exact (Kd.R_mono (rf_ (Kd.R_types HO_4.out BK113.out (by decide)) (fun _ hk => hk.2)) (fun _ h_ => h_.1))) hb); replace BK102 := Aside0.mk (blk_below (g := gb102) (o := .cells #[.slice (some ad104) l0_0.length c0_0, .int .i64 a0_1] 102 (0, 0)) (bp_ BK102.out) hb); replace BK105 := Aside0.mk (blk_below (g := gb105) (o := .cells #[.int .i64 ((rd_T69 l0_0 0).f0), .int .i64 (-1), .int .i64 ((rd_T69 l0_0 0).f2), .int .i64 ((rd_T69 l0_0 0).f3), .int .i64 ((rd_T69 l0_0 0).f4.f0), .string ((rd_T69 l0_0 0).f4.f1), .string ((rd_T69 l0_0 0).f4.f2)] 69 (0, 0)) (bp_ BK105.out) hb); replace HB := bs_ HB hb; replace BK113 := Aside0.mk (blk_below (g := gb113) (o := .cells #[.int .i64 ((rd_T69 l0_0 x82_3).f0), .int .i64 ((rd_T69 l0_0 x82_3).f1), .int .i64 ((rd_T69 l0_0 x82_3).f2), .int .i64 ((rd_T69 l0_0 x82_3).f3), .int .i64 ((rd_T69 l0_0 x82_3).f4.f0), .string ((rd_T69 l0_0 x82_3).f4.f1), .string ((rd_T69 l0_0 x82_3).f4.f2)] 69 (0, 0)) (bp_ BK113.out) hb); (try clear hb); (try clear hb2); (try clear hk); (try clear hi)))
                   go_ret
                   exact ⟨er_, hb_ HB⟩
                 ·replace c74 := Bool.eq_false_iff.mpr c74
                  subst c74
                  have H1 : (if ((rd_T69 l0_0 x82_3).f1) = (-1) then (tree_check.l1 k3 x4_2 l0_0 (l0_0.length : Int) (wrap64 (x82_3 + 1)) l0_0 a0_1) else (some false)) = some r := by rw [if_neg (show ¬ (false = true) by decide)] at H; exact H
                  clear H
                  have H := H1
                  clear H1
                  by_cases c108 : ((rd_T69 l0_0 x82_3).f1) = (-1)
                  ·rw [if_pos c108] at H
                   have c108b0 : (((rd_T69 l0_0 x82_3).f1) == (-1)) = true := beq_iff_eq.mpr c108
                   have c108b1 : (((rd_T69 l0_0 x82_3).f1) != (-1)) = false := bne_eq_false_iff_eq.mpr c108
                   clear c108
                   have H' := Aside0.mk H
                   clear H
                   have p112 : 0 ≤ (x82_3 : Int) := of_decide_eq_true as_
                   have q112 : x82_3 < (l0_0.length : Int) := of_decide_eq_true as_
                   obtain ⟨ad112, e112, hx112_0, hx112_1, hx112_2, hx112_3, hx112_4, hx112_5, hx112_6⟩ := at_T69b HR0_0 HB x82_3 p112 q112
                   obtain rfl : ad104 = ad112 := (by injection e112)
                   replace p112 := eq_true p112
                   replace q112 := eq_true q112
                   go_wp2_with (first | ((with_reducible refine gate_dst (N := 8) rfl ?_); (try (refine gate_guard (by rfl) ?_; dsimp only)); refine be_ (N := 8) (cs := #[.int .i64 0, .int .i64 0, .int .i64 0, .int .i64 0, .int .i64 0, .string (⟨#[]⟩ : ByteArray), .string (⟨#[]⟩ : ByteArray)]) (t := 69) (h := ?_); intro gb113 hg w109 hbox hb; have BK113 := Aside0.mk (hbox); have GW113 := gw_ HB hg; have GE113 := gw_ HB hg; have NB102_113 := ne_ BK102 hg; have NB113_102 := en_ BK102 hg; have NB105_113 := ne_ BK105 hg; have NB113_105 := en_ BK105 hg; replace HO_4 := Aside0.mk (Kd.R_below (rw_ HO_4.out) hb); replace BK102 := bb_ BK102 hb; replace BK105 := bb_ BK105 hb; replace HB := bs_ HB hb; clear hb hbox hg; have hnb110 := NB113_102.out; have hnc110 := NB102_113.out; have hnb111 := NB113_105.out; have hnc111 := NB105_113.out; obtain ⟨hcz112_0, hcz112_1, hcz112_2, hcz112_3, hcz112_4, hcz112_5, hcz112_6, hfz112_0, hfz112_1, hfz112_2, hfz112_3, hfz112_4, hfz112_5, hfz112_6⟩ := bc7_ BK113; obtain ⟨Ao113, co113, eo113⟩ := Kd.R_slice HO_4.out; subst eo113; have p114 : 0 ≤ (x82_3 : Int) := of_decide_eq_true as_; have q114 : x82_3 < (x4_2.length : Int) := of_decide_eq_true as_; obtain ⟨ad114, e114, hx114_0⟩ := Kd.at_bool (Kd.R_reads' HO_4.out).2.2 x82_3 p114 q114; (try rw [← Nbq73.out] at hx114_0); cases e114; have hn114_0 : ad114.block ≠ gb113 := Kd.own_blk (Kd.R_ne HO_4.out BK113.out (by decide)); have hn114_1 : ad114.block ≠ gb113 := Kd.own_blk (Kd.R_ne HO_4.out BK113.out (by decide)); have hn114_2 : ad114.block ≠ gb113 := Kd.own_blk (Kd.R_ne HO_4.out BK113.out (by decide)); have hn114_3 : ad114.block ≠ gb113 := Kd.own_blk (Kd.R_ne HO_4.out BK113.out (by decide)); have hn114_4 : ad114.block ≠ gb113 := Kd.own_blk (Kd.R_ne HO_4.out BK113.out (by decide)); have hn114_5 : ad114.block ≠ gb113 := Kd.own_blk (Kd.R_ne HO_4.out BK113.out (by decide)); have hn114_6 : ad114.block ≠ gb113 := Kd.own_blk (Kd.R_ne HO_4.out BK113.out (by decide)); replace hx114_0 := (cell_far (p := ⟨gb113, 0, none⟩) (by first | (rw [add_block]; exact hn114_0) | (show (Addr.add _ _).block ≠ _; rw [add_block]; exact hn114_0) | exact hn114_0) (.int .i64 ((rd_T69 l0_0 x82_3).f0))).trans hx114_0; replace hx114_0 := (cell_far (p := ⟨gb113, 1, none⟩) (by first | (rw [add_block]; exact hn114_1) | (show (Addr.add _ _).block ≠ _; rw [add_block]; exact hn114_1) | exact hn114_1) (.int .i64 ((rd_T69 l0_0 x82_3).f1))).trans hx114_0; replace hx114_0 := (cell_far (p := ⟨gb113, 2, none⟩) (by first | (rw [add_block]; exact hn114_2) | (show (Addr.add _ _).block ≠ _; rw [add_block]; exact hn114_2) | exact hn114_2) (.int .i64 ((rd_T69 l0_0 x82_3).f2))).trans hx114_0; replace hx114_0 := (cell_far (p := ⟨gb113, 3, none⟩) (by first | (rw [add_block]; exact hn114_3) | (show (Addr.add _ _).block ≠ _; rw [add_block]; exact hn114_3) | exact hn114_3) (.int .i64 ((rd_T69 l0_0 x82_3).f3))).trans hx114_0; replace hx114_0 := (cell_far (p := ⟨gb113, 4, none⟩) (by first | (rw [add_block]; exact hn114_4) | (show (Addr.add _ _).block ≠ _; rw [add_block]; exact hn114_4) | exact hn114_4) (.int .i64 ((rd_T69 l0_0 x82_3).f4.f0))).trans hx114_0; replace hx114_0 := (cell_far (p := ⟨gb113, 5, none⟩) (by first | (rw [add_block]; exact hn114_5) | (show (Addr.add _ _).block ≠ _; rw [add_block]; exact hn114_5) | exact hn114_5) (.string ((rd_T69 l0_0 x82_3).f4.f1))).trans hx114_0; replace hx114_0 := (cell_far (p := ⟨gb113, 6, none⟩) (by first | (rw [add_block]; exact hn114_6) | (show (Addr.add _ _).block ≠ _; rw [add_block]; exact hn114_6) | exact hn114_6) (.string ((rd_T69 l0_0 x82_3).f4.f2))).trans hx114_0; clear hn114_0; clear hn114_1; clear hn114_2; clear hn114_3; clear hn114_4; clear hn114_5; clear hn114_6; replace p114 := eq_true p114; replace q114 := eq_true q114; have p118 : 0 ≤ (x82_3 : Int) := of_decide_eq_true as_; have q118 : x82_3 < (x4_2.length : Int) := of_decide_eq_true as_; obtain ⟨ad118, e118, hx118_0⟩ := Kd.at_bool (Kd.R_reads' HO_4.out).2.2 x82_3 p118 q118; (try rw [← Nbq73.out] at hx118_0); obtain rfl : ad114 = ad118 := (by injection e118); have hn118_0 : ad114.block ≠ gb113 := Kd.own_blk (Kd.R_ne HO_4.out BK113.out (by decide)); have hn118_1 : ad114.block ≠ gb113 := Kd.own_blk (Kd.R_ne HO_4.out BK113.out (by decide)); have hn118_2 : ad114.block ≠ gb113 := Kd.own_blk (Kd.R_ne HO_4.out BK113.out (by decide)); have hn118_3 : ad114.block ≠ gb113 := Kd.own_blk (Kd.R_ne HO_4.out BK113.out (by decide)); have hn118_4 : ad114.block ≠ gb113 := Kd.own_blk (Kd.R_ne HO_4.out BK113.out (by decide)); have hn118_5 : ad114.block ≠ gb113 := Kd.own_blk (Kd.R_ne HO_4.out BK113.out (by decide)); have hn118_6 : ad114.block ≠ gb113 := Kd.own_blk (Kd.R_ne HO_4.out BK113.out (by decide)); replace hx118_0 := (cell_far (p := ⟨gb113, 0, none⟩) (by first | (rw [add_block]; exact hn118_0) | (show (Addr.add _ _).block ≠ _; rw [add_block]; exact hn118_0) | exact hn118_0) (.int .i64 ((rd_T69 l0_0 x82_3).f0))).trans hx118_0; replace hx118_0 := (cell_far (p := ⟨gb113, 1, none⟩) (by first | (rw [add_block]; exact hn118_1) | (show (Addr.add _ _).block ≠ _; rw [add_block]; exact hn118_1) | exact hn118_1) (.int .i64 ((rd_T69 l0_0 x82_3).f1))).trans hx118_0; replace hx118_0 := (cell_far (p := ⟨gb113, 2, none⟩) (by first | (rw [add_block]; exact hn118_2) | (show (Addr.add _ _).block ≠ _; rw [add_block]; exact hn118_2) | exact hn118_2) (.int .i64 ((rd_T69 l0_0 x82_3).f2))).trans hx118_0; replace hx118_0 := (cell_far (p := ⟨gb113, 3, none⟩) (by first | (rw [add_block]; exact hn118_3) | (show (Addr.add _ _).block ≠ _; rw [add_block]; exact hn118_3) | exact hn118_3) (.int .i64 ((rd_T69 l0_0 x82_3).f3))).trans hx118_0; replace hx118_0 := (cell_far (p := ⟨gb113, 4, none⟩) (by first | (rw [add_block]; exact hn118_4) | (show (Addr.add _ _).block ≠ _; rw [add_block]; exact hn118_4) | exact hn118_4) (.int .i64 ((rd_T69 l0_0 x82_3).f4.f0))).trans hx118_0; replace hx118_0 := (cell_far (p := ⟨gb113, 5, none⟩) (by first | (rw [add_block]; exact hn118_5) | (show (Addr.add _ _).block ≠ _; rw [add_block]; exact hn118_5) | exact hn118_5) (.string ((rd_T69 l0_0 x82_3).f4.f1))).trans hx118_0; replace hx118_0 := (cell_far (p := ⟨gb113, 6, none⟩) (by first | (rw [add_block]; exact hn118_6) | (show (Addr.add _ _).block ≠ _; rw [add_block]; exact hn118_6) | exact hn118_6) (.string ((rd_T69 l0_0 x82_3).f4.f2))).trans hx118_0; clear hn118_0; clear hn118_1; clear hn118_2; clear hn118_3; clear hn118_4; clear hn118_5; clear hn118_6; replace p118 := eq_true p118; replace q118 := eq_true q118))
                   go_roundg k3
                   case measure => have := HJ1.out; have := HK2.out; have := HK3.out; omega
                   case rel => exact ⟨(wrap64 (x82_3 + 1)), es_, H', ⟨by have := HJ1.out; have := HK2.out; have := HK3.out; omega⟩, ⟨by (with_reducible repeat (first | apply Kd.R_alloc | apply Kd.R_drewN | apply Kd.R_drew)); exact Kd.R_mono (rf_ (Kd.R_types HO_4.out BK113.out (by decide)) (fun _ hk => hk.2)) (fun _ hk => trivial)⟩, ⟨bp_ BK102.out⟩, ⟨bp_ BK105.out⟩, ⟨hb_ HB⟩⟩
                  ·rw [if_neg c108] at H
                   have c108b0 : (((rd_T69 l0_0 x82_3).f1) == (-1)) = false := beq_eq_false_iff_ne.mpr c108
                   have c108b1 : (((rd_T69 l0_0 x82_3).f1) != (-1)) = true := bne_iff_ne.mpr c108
                   obtain rfl := Option.some.inj H
                   have p112 : 0 ≤ (x82_3 : Int) := of_decide_eq_true as_
                   have q112 : x82_3 < (l0_0.length : Int) := of_decide_eq_true as_
                   obtain ⟨ad112, e112, hx112_0, hx112_1, hx112_2, hx112_3, hx112_4, hx112_5, hx112_6⟩ := at_T69b HR0_0 HB x82_3 p112 q112
                   obtain rfl : ad104 = ad112 := (by injection e112)
                   replace p112 := eq_true p112
                   replace q112 := eq_true q112
                   go_wp2_with (first | ((with_reducible refine gate_dst (N := 8) rfl ?_); (try (refine gate_guard (by rfl) ?_; dsimp only)); refine be_ (N := 8) (cs := #[.int .i64 0, .int .i64 0, .int .i64 0, .int .i64 0, .int .i64 0, .string (⟨#[]⟩ : ByteArray), .string (⟨#[]⟩ : ByteArray)]) (t := 69) (h := ?_); intro gb113 hg w114 hbox hb; have BK113 := Aside0.mk (hbox); have GW113 := gw_ HB hg; have GE113 := gw_ HB hg; have NB102_113 := ne_ BK102 hg; have NB113_102 := en_ BK102 hg; have NB105_113 := ne_ BK105 hg; have NB113_105 := en_ BK105 hg; replace HO_4 := Aside0.mk (Kd.R_below (rw_ HO_4.out) hb); replace BK102 := bb_ BK102 hb; replace BK105 := bb_ BK105 hb; replace HB := bs_ HB hb; clear hb hbox hg; have hnb115 := NB113_102.out; have hnc115 := NB102_113.out; have hnb116 := NB113_105.out; have hnc116 := NB105_113.out; obtain ⟨hcz117_0, hcz117_1, hcz117_2, hcz117_3, hcz117_4, hcz117_5, hcz117_6, hfz117_0, hfz117_1, hfz117_2, hfz117_3, hfz117_4, hfz117_5, hfz117_6⟩ := bc7_ BK113; obtain ⟨Ao118, co118, eo118⟩ := Kd.R_slice HO_4.out; subst eo118; have p114 : 0 ≤ (x82_3 : Int) := of_decide_eq_true as_; have q114 : x82_3 < (x4_2.length : Int) := of_decide_eq_true as_; obtain ⟨ad114, e114, hx114_0⟩ := Kd.at_bool (Kd.R_reads' HO_4.out).2.2 x82_3 p114 q114; (try rw [← Nbq73.out] at hx114_0); cases e114; have hn114_0 : ad114.block ≠ gb113 := Kd.own_blk (Kd.R_ne HO_4.out BK113.out (by decide)); have hn114_1 : ad114.block ≠ gb113 := Kd.own_blk (Kd.R_ne HO_4.out BK113.out (by decide)); have hn114_2 : ad114.block ≠ gb113 := Kd.own_blk (Kd.R_ne HO_4.out BK113.out (by decide)); have hn114_3 : ad114.block ≠ gb113 := Kd.own_blk (Kd.R_ne HO_4.out BK113.out (by decide)); have hn114_4 : ad114.block ≠ gb113 := Kd.own_blk (Kd.R_ne HO_4.out BK113.out (by decide)); have hn114_5 : ad114.block ≠ gb113 := Kd.own_blk (Kd.R_ne HO_4.out BK113.out (by decide)); have hn114_6 : ad114.block ≠ gb113 := Kd.own_blk (Kd.R_ne HO_4.out BK113.out (by decide)); replace hx114_0 := (cell_far (p := ⟨gb113, 0, none⟩) (by first | (rw [add_block]; exact hn114_0) | (show (Addr.add _ _).block ≠ _; rw [add_block]; exact hn114_0) | exact hn114_0) (.int .i64 ((rd_T69 l0_0 x82_3).f0))).trans hx114_0; replace hx114_0 := (cell_far (p := ⟨gb113, 1, none⟩) (by first | (rw [add_block]; exact hn114_1) | (show (Addr.add _ _).block ≠ _; rw [add_block]; exact hn114_1) | exact hn114_1) (.int .i64 ((rd_T69 l0_0 x82_3).f1))).trans hx114_0; replace hx114_0 := (cell_far (p := ⟨gb113, 2, none⟩) (by first | (rw [add_block]; exact hn114_2) | (show (Addr.add _ _).block ≠ _; rw [add_block]; exact hn114_2) | exact hn114_2) (.int .i64 ((rd_T69 l0_0 x82_3).f2))).trans hx114_0; replace hx114_0 := (cell_far (p := ⟨gb113, 3, none⟩) (by first | (rw [add_block]; exact hn114_3) | (show (Addr.add _ _).block ≠ _; rw [add_block]; exact hn114_3) | exact hn114_3) (.int .i64 ((rd_T69 l0_0 x82_3).f3))).trans hx114_0; replace hx114_0 := (cell_far (p := ⟨gb113, 4, none⟩) (by first | (rw [add_block]; exact hn114_4) | (show (Addr.add _ _).block ≠ _; rw [add_block]; exact hn114_4) | exact hn114_4) (.int .i64 ((rd_T69 l0_0 x82_3).f4.f0))).trans hx114_0; replace hx114_0 := (cell_far (p := ⟨gb113, 5, none⟩) (by first | (rw [add_block]; exact hn114_5) | (show (Addr.add _ _).block ≠ _; rw [add_block]; exact hn114_5) | exact hn114_5) (.string ((rd_T69 l0_0 x82_3).f4.f1))).trans hx114_0; replace hx114_0 := (cell_far (p := ⟨gb113, 6, none⟩) (by first | (rw [add_block]; exact hn114_6) | (show (Addr.add _ _).block ≠ _; rw [add_block]; exact hn114_6) | exact hn114_6) (.string ((rd_T69 l0_0 x82_3).f4.f2))).trans hx114_0; clear hn114_0; clear hn114_1; clear hn114_2; clear hn114_3; clear hn114_4; clear hn114_5; clear hn114_6; replace p114 := eq_true p114; replace q114 := eq_true q114; have p118 : 0 ≤ (x82_3 : Int) := of_decide_eq_true as_; have q118 : x82_3 < (x4_2.length : Int) := of_decide_eq_true as_; obtain ⟨ad118, e118, hx118_0⟩ := Kd.at_bool (Kd.R_reads' HO_4.out).2.2 x82_3 p118 q118; (try rw [← Nbq73.out] at hx118_0); obtain rfl : ad114 = ad118 := (by injection e118); have hn118_0 : ad114.block ≠ gb113 := Kd.own_blk (Kd.R_ne HO_4.out BK113.out (by decide)); have hn118_1 : ad114.block ≠ gb113 := Kd.own_blk (Kd.R_ne HO_4.out BK113.out (by decide)); have hn118_2 : ad114.block ≠ gb113 := Kd.own_blk (Kd.R_ne HO_4.out BK113.out (by decide)); have hn118_3 : ad114.block ≠ gb113 := Kd.own_blk (Kd.R_ne HO_4.out BK113.out (by decide)); have hn118_4 : ad114.block ≠ gb113 := Kd.own_blk (Kd.R_ne HO_4.out BK113.out (by decide)); have hn118_5 : ad114.block ≠ gb113 := Kd.own_blk (Kd.R_ne HO_4.out BK113.out (by decide)); have hn118_6 : ad114.block ≠ gb113 := Kd.own_blk (Kd.R_ne HO_4.out BK113.out (by decide)); replace hx118_0 := (cell_far (p := ⟨gb113, 0, none⟩) (by first | (rw [add_block]; exact hn118_0) | (show (Addr.add _ _).block ≠ _; rw [add_block]; exact hn118_0) | exact hn118_0) (.int .i64 ((rd_T69 l0_0 x82_3).f0))).trans hx118_0; replace hx118_0 := (cell_far (p := ⟨gb113, 1, none⟩) (by first | (rw [add_block]; exact hn118_1) | (show (Addr.add _ _).block ≠ _; rw [add_block]; exact hn118_1) | exact hn118_1) (.int .i64 ((rd_T69 l0_0 x82_3).f1))).trans hx118_0; replace hx118_0 := (cell_far (p := ⟨gb113, 2, none⟩) (by first | (rw [add_block]; exact hn118_2) | (show (Addr.add _ _).block ≠ _; rw [add_block]; exact hn118_2) | exact hn118_2) (.int .i64 ((rd_T69 l0_0 x82_3).f2))).trans hx118_0; replace hx118_0 := (cell_far (p := ⟨gb113, 3, none⟩) (by first | (rw [add_block]; exact hn118_3) | (show (Addr.add _ _).block ≠ _; rw [add_block]; exact hn118_3) | exact hn118_3) (.int .i64 ((rd_T69 l0_0 x82_3).f3))).trans hx118_0; replace hx118_0 := (cell_far (p := ⟨gb113, 4, none⟩) (by first | (rw [add_block]; exact hn118_4) | (show (Addr.add _ _).block ≠ _; rw [add_block]; exact hn118_4) | exact hn118_4) (.int .i64 ((rd_T69 l0_0 x82_3).f4.f0))).trans hx118_0; replace hx118_0 := (cell_far (p := ⟨gb113, 5, none⟩) (by first | (rw [add_block]; exact hn118_5) | (show (Addr.add _ _).block ≠ _; rw [add_block]; exact hn118_5) | exact hn118_5) (.string ((rd_T69 l0_0 x82_3).f4.f1))).trans hx118_0; replace hx118_0 := (cell_far (p := ⟨gb113, 6, none⟩) (by first | (rw [add_block]; exact hn118_6) | (show (Addr.add _ _).block ≠ _; rw [add_block]; exact hn118_6) | exact hn118_6) (.string ((rd_T69 l0_0 x82_3).f4.f2))).trans hx118_0; clear hn118_0; clear hn118_1; clear hn118_2; clear hn118_3; clear hn118_4; clear hn118_5; clear hn118_6; replace p118 := eq_true p118; replace q118 := eq_true q118))
                   go_ret
                   exact ⟨er_, hb_ HB⟩
                ·rw [if_neg c72] at H
                 exact absurd H (by simp)
               ·rw [if_neg c71] at H
                exact absurd H (by simp)
              ·rw [if_neg c70] at H
               exact absurd H (by simp)
             ·rw [if_neg c69] at H
              have c69b0 : decide (x82_3 < (l0_0.length : Int)) = false := decide_eq_false c69
              clear c69
              obtain rfl := Option.some.inj H
              go_wp2
              go_ret
              exact ⟨er_, hb_ HB⟩
       ·rw [if_neg c19] at H
        exact absurd H (by simp)
      ·rw [if_neg c18] at H
       exact absurd H (by simp)
    ·rw [if_neg c12] at H
     exact absurd H (by simp)

end Go.Proofs.Ytkiokimpblimcaa.PTreeAdds
