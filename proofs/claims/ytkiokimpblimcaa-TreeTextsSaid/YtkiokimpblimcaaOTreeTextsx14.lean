/- Of the law calamus/calamuslaw11.TreeTexts: each function as a plain Lean function, with a proof that the call comes to it; the row. By wip/tpl/own_print.py. Conditions: none but the row's own. -/
import Derived.Test.YtkiokimpblimcaaOTreeTextsx0
import Derived.Test.YtkiokimpblimcaaOTreeTextsx11
import Derived.Test.YtkiokimpblimcaaOTreeTextsx12
import Derived.Test.YtkiokimpblimcaaOTreeTextsx13
namespace Go.Proofs.Ytkiokimpblimcaa.PTreeTexts
open Go.RowKit Go.Proofs.YtkiokimpblimcaaW.PrintWords Go.Proofs.YtkiokimpblimcaaW.PrintLast Go.Proofs.YtkiokimpblimcaaW.PrintMore
attribute [local go_sem] max2_int min2_int max_two min_two max_three min_three max_four min_four   -- for this text's walks alone
set_option linter.unusedVariables false
set_option linter.unusedSimpArgs false

/-! ### calamusref11_Texts: function 56 -/
mutual
def calamusref11_Texts.l0 : Nat → List ByteArray → Int → List (S69) → Int → Option (List ByteArray × Int)
 | 0, _, _, _, _ => none
 | k + 1, x6, x7, x351000, x351001 => if x7 > 0 then (if 0 ≤ x7 then (if x7 < (x351000.length : Int) then (if x7 < (x6.length : Int) then ((calamusref08_Do.f k (rdOf ByteArray.empty x6 x7) (([(⟨(rd_T69 x351000 x7).f4.f0, (rd_T69 x351000 x7).f4.f2, (rd_T69 x351000 x7).f4.f1⟩ : S24)] : List (S24)))).bind fun bt362 => (if bt362.2 = 0 then (if 0 ≤ ((rd_T69 x351000 x7).f0) then (if ((rd_T69 x351000 x7).f0) < (x6.length : Int) then (calamusref11_Texts.l0 k (x6.set (((rd_T69 x351000 x7).f0) : Int).toNat bt362.1) ((rd_T69 x351000 x7).f0) x351000 x351001) else (none)) else (none)) else (some (([] : List ByteArray), bt362.2)))) else (none)) else (none)) else (none)) else (calamusref11_Texts.l1 k x6 0 x351000 x351001)
def calamusref11_Texts.l1 : Nat → List ByteArray → Int → List (S69) → Int → Option (List ByteArray × Int)
 | 0, _, _, _, _ => none
 | k + 1, x6, x11, x351000, x351001 => if x11 < (x351000.length : Int) then ((calamusref11_on.f k x351000 x351001 x11 x351001).bind fun t367 => (if t367 = true then (calamusref11_Texts.l1 k x6 (wrap64 (x11 + 1)) x351000 x351001) else (if 0 ≤ x11 then (if 0 ≤ ((rd_T69 x351000 x11).f0) then (if ((rd_T69 x351000 x11).f0) < (x6.length : Int) then ((calamusref08_Do.f k (rdOf ByteArray.empty x6 ((rd_T69 x351000 x11).f0)) (([(⟨(rd_T69 x351000 x11).f4.f0, (rd_T69 x351000 x11).f4.f1, (rd_T69 x351000 x11).f4.f2⟩ : S24)] : List (S24)))).bind fun bt374 => (if bt374.2 = 0 then (if x11 < (x6.length : Int) then (calamusref11_Texts.l1 k (x6.set (x11 : Int).toNat bt374.1) (wrap64 (x11 + 1)) x351000 x351001) else (none)) else (some (([] : List ByteArray), bt374.2)))) else (none)) else (none)) else (none)))) else (some (x6, 0))
end
def calamusref11_Texts.f (k : Nat) (l0_0 : List (S69)) (a0_1 : Int) (a1 : ByteArray) : Option (List ByteArray × Int) := (calamusref11_Right.f k l0_0 a0_1).bind fun t351 => (if t351 = true then (if 0 ≤ (l0_0.length : Int) then (if ((l0_0.length : Int) : Int).toNat ≤ 17592186044416 then ((some (List.replicate ((l0_0.length : Int) : Int).toNat (⟨#[]⟩ : ByteArray) : List ByteArray)).bind fun y352 => (if 0 ≤ a0_1 then (if a0_1 < (y352.length : Int) then (calamusref11_Texts.l0 k (y352.set (a0_1 : Int).toNat a1) a0_1 l0_0 a0_1) else (none)) else (none))) else (none)) else (none)) else (some (([] : List ByteArray), 1)))
theorem calamusref11_Texts.mono_l : ∀ k, (∀ y0 y1 y2 y3, LeO (calamusref11_Texts.l0 k y0 y1 y2 y3) (calamusref11_Texts.l0 (k + 1) y0 y1 y2 y3)) ∧ (∀ y0 y1 y2 y3, LeO (calamusref11_Texts.l1 k y0 y1 y2 y3) (calamusref11_Texts.l1 (k + 1) y0 y1 y2 y3))
 | 0 => ⟨fun _ _ _ _ r h => by simp [calamusref11_Texts.l0] at h, fun _ _ _ _ r h => by simp [calamusref11_Texts.l1] at h⟩
 | k + 1 => by
  obtain ⟨ih0, ih1⟩ := calamusref11_Texts.mono_l k
  refine ⟨?_, ?_⟩
  ·intro y0 y1 y2 y3
   unfold calamusref11_Texts.l0
   repeat' first
   | (with_reducible exact ih0 _ _ _ _)
   | (with_reducible exact ih1 _ _ _ _)
   | (with_reducible exact calamusref08_Do.mono _ _ _)
   | (with_reducible exact calamusref11_Right.mono _ _ _)
   | (with_reducible exact calamusref11_on.mono _ _ _ _ _)
   | (with_reducible exact LeO.refl _)
   | (with_reducible exact LeO.none _)
   | (with_reducible refine LeO.ite ?_ ?_)
   | (with_reducible refine LeO.bind ?_ (fun _ => ?_))
   | exact ih0 _ _ _ _
   | exact ih1 _ _ _ _
   | exact calamusref08_Do.mono _ _ _
   | exact calamusref11_Right.mono _ _ _
   | exact calamusref11_on.mono _ _ _ _ _
   | exact LeO.none _
   | refine LeO.ite ?_ ?_
   | refine LeO.bind ?_ (fun _ => ?_)
  ·intro y0 y1 y2 y3
   unfold calamusref11_Texts.l1
   repeat' first
   | (with_reducible exact ih0 _ _ _ _)
   | (with_reducible exact ih1 _ _ _ _)
   | (with_reducible exact calamusref08_Do.mono _ _ _)
   | (with_reducible exact calamusref11_Right.mono _ _ _)
   | (with_reducible exact calamusref11_on.mono _ _ _ _ _)
   | (with_reducible exact LeO.refl _)
   | (with_reducible exact LeO.none _)
   | (with_reducible refine LeO.ite ?_ ?_)
   | (with_reducible refine LeO.bind ?_ (fun _ => ?_))
   | exact ih0 _ _ _ _
   | exact ih1 _ _ _ _
   | exact calamusref08_Do.mono _ _ _
   | exact calamusref11_Right.mono _ _ _
   | exact calamusref11_on.mono _ _ _ _ _
   | exact LeO.none _
   | refine LeO.ite ?_ ?_
   | refine LeO.bind ?_ (fun _ => ?_)
theorem calamusref11_Texts.mono : ∀ a0 a1 a2 k, LeO (calamusref11_Texts.f k a0 a1 a2) (calamusref11_Texts.f (k + 1) a0 a1 a2) := by
 intro a0 a1 a2 k
 obtain ⟨ih0, ih1⟩ := calamusref11_Texts.mono_l k
 unfold calamusref11_Texts.f
 repeat' first
   | (with_reducible exact ih0 _ _ _ _)
   | (with_reducible exact ih1 _ _ _ _)
   | (with_reducible exact calamusref08_Do.mono _ _ _)
   | (with_reducible exact calamusref11_Right.mono _ _ _)
   | (with_reducible exact calamusref11_on.mono _ _ _ _ _)
   | (with_reducible exact LeO.refl _)
   | (with_reducible exact LeO.none _)
   | (with_reducible refine LeO.ite ?_ ?_)
   | (with_reducible refine LeO.bind ?_ (fun _ => ?_))
   | exact ih0 _ _ _ _
   | exact ih1 _ _ _ _
   | exact calamusref08_Do.mono _ _ _
   | exact calamusref11_Right.mono _ _ _
   | exact calamusref11_on.mono _ _ _ _ _
   | exact LeO.none _
   | refine LeO.ite ?_ ?_
   | refine LeO.bind ?_ (fun _ => ?_)
def calamusref11_Texts.T9 : Bool × List (List Nat × List Nat) := (true, [([], []), ([], []), ([0, 1], [0, 1]), ([2], [2]), ([], []), ([4], [4]), ([], []), ([6], [6]), ([], []), ([8], [8]), ([5, 7, 9], [5, 7, 9]), ([10], [10]), ([3, 11], [3, 11]), ([12], [12]), ([13], [13]), ([13], [13]), ([14, 12, 0, 1, 2, 3, 4, 5, 6, 7, 8, 9, 10, 11, 12, 13, 14], [14]), ([15, 16, 0, 1, 2, 3, 4, 5, 6, 7, 8, 9, 10, 11, 12, 13, 14, 15, 16], [15])])
def calamusref11_Texts.B9 : List Nat := [0, 0, 3, 7, 0, 16, 0, 64, 0, 256, 1008, 2032, 4095, 8191, 16383, 16383, 32767, 131071]
theorem calamusref11_Texts.tab9 : rtab .any (opsOf Try.f56 9) = calamusref11_Texts.T9 := by kernel_rfl
theorem calamusref11_Texts.bits9 : waitsOk calamusref11_Texts.T9.2 calamusref11_Texts.B9 = true := by kernel_rfl
def calamusref11_Texts.T17 : Bool × List (List Nat × List Nat) := (true, [([], []), ([], []), ([1], [1]), ([], []), ([2, 3], [2, 3]), ([4], [4]), ([5], [5]), ([0, 6], [0, 6]), ([7], [7]), ([], []), ([9], [9]), ([], []), ([10, 11], [10, 11]), ([12], [12]), ([13], [13]), ([14], [14]), ([8, 15], [8, 15]), ([16], [16]), ([17], [17]), ([17], [17]), ([18, 16, 0, 1, 2, 3, 4, 5, 6, 7, 8, 9, 10, 11, 12, 13, 14, 15, 16, 17, 18], [18]), ([19, 20, 0, 1, 2, 3, 4, 5, 6, 7, 8, 9, 10, 11, 12, 13, 14, 15, 16, 17, 18, 19, 20], [19])])
def calamusref11_Texts.B17 : List Nat := [0, 0, 2, 0, 14, 30, 62, 127, 255, 0, 512, 0, 3584, 7680, 15872, 32256, 65535, 131071, 262143, 262143, 524287, 2097151]
theorem calamusref11_Texts.tab17 : rtab .any (opsOf Try.f56 17) = calamusref11_Texts.T17 := by kernel_rfl
theorem calamusref11_Texts.bits17 : waitsOk calamusref11_Texts.T17.2 calamusref11_Texts.B17 = true := by kernel_rfl
set_option maxHeartbeats 8000000 in
set_option maxRecDepth 100000 in
theorem calamusref11_Texts.calls (k : Nat) (A0_0 : Option Addr) (c0_0 : Nat) (l0_0 : List (S69)) (a0_1 : Int) (a1 : ByteArray) (r1 : List ByteArray) (r2 : Int) (w : World) (hr0_0 : Kd.C k69 w A0_0 l0_0.length l0_0) (hc0_0 : l0_0.length ≤ c0_0) (h : calamusref11_Texts.f k l0_0 a0_1 a1 = some (r1, r2)) :
  Calls Try.prog 56 #[.agg #[.slice A0_0 l0_0.length c0_0, .int .i64 a0_1], .string a1] w fun e w' => ∃ v0_ : Value, e = .returned (.tuple #[v0_, .int .i64 r2]) ∧ Kd.R Kd.string 9 w' w.heap.size (fun _ => True) v0_ r1 ∧ Below w.heap.size w w' := by
 have hu46 := Try.underlying46
 have hu24 := Try.underlying24
 have HR0_0 := Aside0.mk hr0_0
 have HC0_0 := Aside0.mk hc0_0
 clear hr0_0 hc0_0
 have HB := Aside0.mk (Below.refl w.heap.size w)
 have H : ((calamusref11_Right.f k l0_0 a0_1).bind fun t351 => (if t351 = true then (if 0 ≤ (l0_0.length : Int) then (if ((l0_0.length : Int) : Int).toNat ≤ 17592186044416 then ((some (List.replicate ((l0_0.length : Int) : Int).toNat (⟨#[]⟩ : ByteArray) : List ByteArray)).bind fun y352 => (if 0 ≤ a0_1 then (if a0_1 < (y352.length : Int) then (calamusref11_Texts.l0 k (y352.set (a0_1 : Int).toNat a1) a0_1 l0_0 a0_1) else (none)) else (none))) else (none)) else (none)) else (some (([] : List ByteArray), 1)))) = some (r1, r2) := h
 clear h
 replace H := Option.bind_eq_some_iff.mp H
 obtain ⟨t351, A30, H⟩ := H
 replace H : (if t351 = true then (if 0 ≤ (l0_0.length : Int) then (if ((l0_0.length : Int) : Int).toNat ≤ 17592186044416 then ((some (List.replicate ((l0_0.length : Int) : Int).toNat (⟨#[]⟩ : ByteArray) : List ByteArray)).bind fun y352 => (if 0 ≤ a0_1 then (if a0_1 < (y352.length : Int) then (calamusref11_Texts.l0 k (y352.set (a0_1 : Int).toNat a1) a0_1 l0_0 a0_1) else (none)) else (none))) else (none)) else (none)) else (some (([] : List ByteArray), 1))) = some (r1, r2) := H
 have A3 := Aside0.mk A30
 clear A30
 by_cases c4 : t351 = true
 ·subst c4
  have H1 : (if 0 ≤ (l0_0.length : Int) then (if ((l0_0.length : Int) : Int).toNat ≤ 17592186044416 then ((some (List.replicate ((l0_0.length : Int) : Int).toNat (⟨#[]⟩ : ByteArray) : List ByteArray)).bind fun y352 => (if 0 ≤ a0_1 then (if a0_1 < (y352.length : Int) then (calamusref11_Texts.l0 k (y352.set (a0_1 : Int).toNat a1) a0_1 l0_0 a0_1) else (none)) else (none))) else (none)) else (none)) = some (r1, r2) := by rw [if_pos rfl] at H; exact H
  clear H
  have H := H1
  clear H1
  by_cases c5 : 0 ≤ (l0_0.length : Int)
  ·rw [if_pos c5] at H
   have c5b0 := eq_true c5
   have c5b1 : decide (0 ≤ (l0_0.length : Int)) = true := decide_eq_true c5
   clear c5
   by_cases c6 : ((l0_0.length : Int) : Int).toNat ≤ 17592186044416
   ·rw [if_pos c6] at H
    have c6b0 := eq_true c6
    have c6b1 : decide (((l0_0.length : Int) : Int).toNat ≤ 17592186044416) = true := decide_eq_true c6
    clear c6
    obtain ⟨y352, hy352⟩ : ∃ y_ : List ByteArray, y_ = (List.replicate ((l0_0.length : Int) : Int).toNat (⟨#[]⟩ : ByteArray)) := ⟨_, rfl⟩
    replace H : (if 0 ≤ a0_1 then (if a0_1 < (y352.length : Int) then (calamusref11_Texts.l0 k (y352.set (a0_1 : Int).toNat a1) a0_1 l0_0 a0_1) else (none)) else (none)) = some (r1, r2) := th_ H hy352
    have Ny352 := Aside0.mk hy352
    clear hy352
    by_cases c7 : 0 ≤ a0_1
    ·rw [if_pos c7] at H
     have c7b0 : decide (0 ≤ a0_1) = true := decide_eq_true c7
     clear c7
     by_cases c8 : a0_1 < (y352.length : Int)
     ·rw [if_pos c8] at H
      have c8b0 : decide (a0_1 < (y352.length : Int)) = true := decide_eq_true c8
      clear c8
      obtain ⟨y355, hy355⟩ : ∃ y_ : List ByteArray, y_ = (y352.set (a0_1 : Int).toNat a1) := ⟨_, rfl⟩
      replace H : (calamusref11_Texts.l0 k y355 a0_1 l0_0 a0_1) = some (r1, r2) := th_ H hy355
      have Ny355 := Aside0.mk hy355
      clear hy355
      have H' := Aside0.mk H
      clear H
      go_enter Try.func56, Try.ntmps56
      go_wp2_with (first | ((with_reducible refine gate_dst (N := 2) rfl ?_); refine be_ (N := 2) (cs := #[.slice A0_0 l0_0.length c0_0, .int .i64 a0_1]) (t := 46) (h := ?_); intro gb350 hg w10 hbox hb; have BK350 := Aside0.mk (hbox); have GW350 := gw_ HB hg; have GE350 := gw_ HB hg; replace HB := bs_ HB hb; clear hb hbox hg; obtain ⟨hcz11_0, hcz11_1, hfz11_0, hfz11_1⟩ := bc2_ BK350) | ((with_reducible refine gate_callee (f := 37) rfl ?_); refine ge_ (some 15) rfl rfl Try.func37 (by kernel_rfl) rfl #[.agg #[.slice A0_0 l0_0.length c0_0, .int .i64 a0_1]] rfl (h := ?_); (with_reducible refine (calamusref11_Right.calls k _ _ l0_0 a0_1 true _ ?side1 ?side2 A3.out).mono ?_); (case side1 => exact cw_ (Kd.C_below HR0_0.out HB.out)); (case side2 => exact HC0_0.out); rintro e w12 ⟨rfl, hb⟩; refine ⟨_, rfl, ?_⟩; replace BK350 := bb_ BK350 hb; replace HB := bs_ HB hb; (try clear hb); (try clear hb2); (try clear hk); (try clear hi); obtain ⟨hcz13_0, hcz13_1, hfz13_0, hfz13_1⟩ := bc2_ BK350) | ((with_reducible refine gate_dst (N := 20) rfl ?_); refine Kd.R_make Kd.string _ 9 rfl (N := 20) rfl 70 _ _ rfl (l0_0.length : Int) rfl rfl Try.underlying70 (.string ⟨#[]⟩) 16 info9 rfl (by decide) (by omega) (⟨#[]⟩ : ByteArray) (ok := fun _ => True) (okp := fun _ => True) rfl (fun _ hk => hk) trivial (of_decide_eq_true as_) (Nat.le_trans (Nat.mul_le_mul_right _ (of_decide_eq_true as_ : (l0_0.length : Int).toNat ≤ 17592186044416)) (by omega)) (Below.refl _ _) (Nat.le_refl _) ?_; intro v353 w14 ho15 hb hg_ hnew_; clear hg_ hnew_; (first | rw [← Ny352.out] at ho15 | (simp only [Int.reduceToNat] at ho15; rw [← Ny352.out] at ho15)); have HO354 := Aside0.mk (Kd.R_lower ho15 (below_size (hb_ HB))); replace BK350 := bb_ BK350 hb; replace HB := bs_ HB hb; clear hb ho15; obtain ⟨hcz16_0, hcz16_1, hfz16_0, hfz16_1⟩ := bc2_ BK350; have p9 : 0 ≤ (a0_1 : Int) := of_decide_eq_true as_; have q9 : (a0_1 : Int) < ((y352.length : Int) : Int) := of_decide_eq_true as_; obtain ⟨go9, co9, eo9, gb9, gl9, cl9, HG9⟩ := Kd.R_form HO354.out (by omega); (first | cases eo9 | (injection eo9 with ea_ en_ ec_; (first | subst ea_ | (injection ea_ with ea_; subst ea_)); subst ec_; clear en_)); have GB9 := Aside0.mk gb9; have GG9 := Aside0.mk HG9; clear gb9 gl9 HG9; obtain ⟨hx9_0, hf9_0⟩ := Kd.R_celln (⟨#[]⟩ : ByteArray) HO354.out (a0_1 : Int) p9 q9; replace p9 := eq_true p9; replace q9 := eq_true q9; obtain ⟨hy17_, hz17_⟩ := Kd.R_celln (⟨#[]⟩ : ByteArray) HO354.out (a0_1 : Int) (of_decide_eq_true as_) (of_decide_eq_true as_); have HP17 := Kd.R_putg HO354.out (a0_1 : Int) a1) | ((with_reducible refine gate_store (t := 9) (p := 25) rfl ?_); refine store_event (t := 9) (p := 25) (v := ?vo_w18) (w1 := (w14.setCell ⟨go9, (a0_1 : Int).toNat, none⟩ (.string a1))) ?hg ?ho ?hn ?hr ?_; (case ho => rfl); (case hg => rfl); (case hn => rfl); (case hr => first | (go_simp; done) | (go_simp; rfl)); intro w18 hw; have hg : w14.grownBy w18 (some go9) := (by rw [hw]; exact HP17.2); have hp_ : Kd.R Kd.string 9 w18 w.heap.size (fun _ => True) (.slice (some ⟨go9, 0, none⟩) y352.length co9) y355 := (by rw [hw, Ny355.out]; exact HP17.1); clear HP17; replace BK350 := Aside0.mk (blk_grown (g := gb350) (o := .cells #[.slice A0_0 l0_0.length c0_0, .int .i64 a0_1] 46 (0, 0)) (bw_ BK350.out) hg (Kd.R_ne HO354.out BK350.out (by decide))); replace HB := Aside0.mk ((by rw [hw]; exact below_set (HB.out) GB9.out : Below w.heap.size w w18)); replace HO354 := Aside0.mk (hp_); clear hg hw hp_; obtain ⟨hcz19_0, hcz19_1, hfz19_0, hfz19_1⟩ := bc2_ BK350))
      go_loopg [7] k (fun kq v7 w' => ∃ (x6_1 : List ByteArray) (x7_1 : Int), v7 = .int .i64 x7_1 ∧ Aside0 (calamusref11_Texts.l0 kq x6_1 x7_1 l0_0 a0_1 = some (r1, r2)) ∧ Aside0 (kq ≤ k) ∧ Aside0 (Kd.R Kd.string 9 w' w.heap.size (fun _ => True) (.slice (some ⟨go9, 0, none⟩) y352.length co9) x6_1) ∧ Aside0 (w'.heap[gb350]? = some (.cells #[(.slice A0_0 l0_0.length c0_0), .int .i64 a0_1] 46 (0, 0))) ∧ Aside0 (Below w.heap.size w w'))
      case atStart => exact ⟨(y355), (a0_1), es_, H', ⟨Nat.le_refl _⟩, ⟨rw_ HO354.out⟩, ⟨bw_ BK350.out⟩, ⟨hb_ HB⟩⟩
      case round =>
       clear H'
       try clear c4
       try clear c5
       try clear c5b0
       try clear c5b1
       try clear c6
       try clear c6b0
       try clear c6b1
       try clear c7
       try clear c7b0
       try clear c8
       try clear c8b0
       try clear p9
       try clear q9
       try clear hcz11_0
       try clear hcz11_1
       try clear hcz13_0
       try clear hcz13_1
       try clear hcz16_0
       try clear hcz16_1
       try clear hcz19_0
       try clear hcz19_1
       try clear hfz11_0
       try clear hfz11_1
       try clear hfz13_0
       try clear hfz13_1
       try clear hfz16_0
       try clear hfz16_1
       try clear hfz19_0
       try clear hfz19_1
       try clear hx9_0
       try clear p9
       try clear q9
       obtain ⟨x6_1, x7_1, rfl, HA, HK1, HO_6, BK350, HB⟩ := hrel
       have hl6_1 := (Kd.R_reads' HO_6.out).1
       rw [hl6_1] at HO_6
       (try simp only [hl6_1])
       (try simp only [hl6_1] at BK350)
       cases gk with
       | zero => exact absurd HA.out (by simp [calamusref11_Texts.l0])
       | succ k1 =>
        have H := HA.out
        clear HA
        simp only [calamusref11_Texts.l0] at H
        by_cases c20 : x7_1 > 0
        ·rw [if_pos c20] at H
         have c20b0 : decide (0 < x7_1) = true := decide_eq_true c20
         clear c20
         by_cases c21 : 0 ≤ x7_1
         ·rw [if_pos c21] at H
          have c21b0 : decide (0 ≤ x7_1) = true := decide_eq_true c21
          clear c21
          by_cases c22 : x7_1 < (l0_0.length : Int)
          ·rw [if_pos c22] at H
           have c22b0 : decide (x7_1 < (l0_0.length : Int)) = true := decide_eq_true c22
           clear c22
           by_cases c23 : x7_1 < (x6_1.length : Int)
           ·rw [if_pos c23] at H
            have c23b0 : decide (x7_1 < (x6_1.length : Int)) = true := decide_eq_true c23
            clear c23
            obtain ⟨y359, hy359⟩ : ∃ y_ : List (S24), y_ = (([(⟨(rd_T69 l0_0 x7_1).f4.f0, (rd_T69 l0_0 x7_1).f4.f2, (rd_T69 l0_0 x7_1).f4.f1⟩ : S24)] : List (S24))) := ⟨_, rfl⟩
            replace H : ((calamusref08_Do.f k1 (rdOf ByteArray.empty x6_1 x7_1) y359).bind fun bt362 => (if bt362.2 = 0 then (if 0 ≤ ((rd_T69 l0_0 x7_1).f0) then (if ((rd_T69 l0_0 x7_1).f0) < (x6_1.length : Int) then (calamusref11_Texts.l0 k1 (x6_1.set (((rd_T69 l0_0 x7_1).f0) : Int).toNat bt362.1) ((rd_T69 l0_0 x7_1).f0) l0_0 a0_1) else (none)) else (none)) else (some (([] : List ByteArray), bt362.2)))) = some (r1, r2) := th_ H hy359
            have Ny359 := Aside0.mk hy359
            clear hy359
            replace H := Option.bind_eq_some_iff.mp H
            obtain ⟨⟨t362, t363⟩, A240, H⟩ := H
            replace H : (if t363 = 0 then (if 0 ≤ ((rd_T69 l0_0 x7_1).f0) then (if ((rd_T69 l0_0 x7_1).f0) < (x6_1.length : Int) then (calamusref11_Texts.l0 k1 (x6_1.set (((rd_T69 l0_0 x7_1).f0) : Int).toNat t362) ((rd_T69 l0_0 x7_1).f0) l0_0 a0_1) else (none)) else (none)) else (some (([] : List ByteArray), t363))) = some (r1, r2) := H
            have A24 := Aside0.mk A240
            clear A240
            by_cases c25 : t363 = 0
            ·rw [if_pos c25] at H
             have c25b0 : (t363 == 0) = true := beq_iff_eq.mpr c25
             have c25b1 : (t363 != 0) = false := bne_eq_false_iff_eq.mpr c25
             clear c25
             by_cases c26 : 0 ≤ ((rd_T69 l0_0 x7_1).f0)
             ·rw [if_pos c26] at H
              have c26b0 : decide (0 ≤ ((rd_T69 l0_0 x7_1).f0)) = true := decide_eq_true c26
              clear c26
              by_cases c27 : ((rd_T69 l0_0 x7_1).f0) < (x6_1.length : Int)
              ·rw [if_pos c27] at H
               have c27b0 : decide (((rd_T69 l0_0 x7_1).f0) < (x6_1.length : Int)) = true := decide_eq_true c27
               clear c27
               obtain ⟨y365, hy365⟩ : ∃ y_ : List ByteArray, y_ = (x6_1.set (((rd_T69 l0_0 x7_1).f0) : Int).toNat t362) := ⟨_, rfl⟩
               replace H : (calamusref11_Texts.l0 k1 y365 ((rd_T69 l0_0 x7_1).f0) l0_0 a0_1) = some (r1, r2) := th_ H hy365
               have Ny365 := Aside0.mk hy365
               clear hy365
               have H' := Aside0.mk H
               clear H
               obtain ⟨hcz29_0, hcz29_1, hfz29_0, hfz29_1⟩ := bc2_ BK350
               have p356 : 0 ≤ (x7_1 : Int) := of_decide_eq_true as_
               have q356 : x7_1 < (l0_0.length : Int) := of_decide_eq_true as_
               obtain ⟨ad356, e356, hx356_0, hx356_1, hx356_2, hx356_3, hx356_4, hx356_5, hx356_6⟩ := at_T69b HR0_0 HB x7_1 p356 q356
               cases e356
               replace p356 := eq_true p356
               replace q356 := eq_true q356
               try go_wp2_with (first | ((with_reducible refine gate_dst (N := 8) rfl ?_); refine be_ (N := 8) (cs := #[.int .i64 0, .string (⟨#[]⟩ : ByteArray), .string (⟨#[]⟩ : ByteArray)]) (t := 24) (h := ?_); intro gb357 hg w30 hbox hb; have BK357 := Aside0.mk (hbox); have GW357 := gw_ HB hg; have GE357 := gw_ HB hg; have NB350_357 := ne_ BK350 hg; have NB357_350 := en_ BK350 hg; replace HO_6 := Aside0.mk (Kd.R_below (rw_ HO_6.out) hb); replace BK350 := bb_ BK350 hb; replace HB := bs_ HB hb; clear hb hbox hg; have hnb31 := NB357_350.out; have hnc31 := NB350_357.out; obtain ⟨hcz32_0, hcz32_1, hcz32_2, hfz32_0, hfz32_1, hfz32_2⟩ := bc3_ BK357))
               obtain ⟨w33, hW_⟩ : ∃ x, x = (((w30.setCell ⟨gb357, 0, none⟩ (.int .i64 ((rd_T69 l0_0 x7_1).f4.f0))).setCell ⟨gb357, 1, none⟩ (.string ((rd_T69 l0_0 x7_1).f4.f1))).setCell ⟨gb357, 2, none⟩ (.string ((rd_T69 l0_0 x7_1).f4.f2))) := ⟨_, rfl⟩
               have n0_ : Aside0 (Kd.R Kd.string 9 w33 w.heap.size (fun _ => True) (.slice (some ⟨go9, 0, none⟩) x6_1.length co9) x6_1) := ⟨by rw [hW_]; (with_reducible repeat (first | apply Kd.R_alloc | apply Kd.R_drewN | apply Kd.R_drew)); exact Kd.R_mono (rf_ (Kd.R_types HO_6.out BK357.out (by decide)) (fun _ hk => hk.2)) (fun _ hk => trivial)⟩
               have n1_ : Aside0 (w33.heap[gb350]? = some (.cells #[.slice (some ad356) l0_0.length c0_0, .int .i64 a0_1] 46 (0, 0))) := ⟨by rw [hW_]; exact bp_ BK350.out⟩
               have n2_ : Aside0 (w33.heap[gb357]? = some (.cells #[.int .i64 ((rd_T69 l0_0 x7_1).f4.f0), .string ((rd_T69 l0_0 x7_1).f4.f1), .string ((rd_T69 l0_0 x7_1).f4.f2)] 24 (0, 0))) := ⟨by rw [hW_]; exact bp_ BK357.out⟩
               have n3_ : Aside0 (Below w.heap.size w w33) := ⟨by rw [hW_]; exact hb_ HB⟩
               (try clear HO_6)
               (try clear BK350)
               (try clear BK357)
               (try clear HB)
               rw [← hW_]; clear hW_
               have HO_6 := n0_
               have BK350 := n1_
               have BK357 := n2_
               have HB := n3_
               clear n0_ n1_ n2_ n3_
               have n0_ := Aside0.mk (Kd.R_drew HO_6.out)
               have n1_ := Aside0.mk (blk_drew BK350.out)
               have n2_ := Aside0.mk (blk_drew BK357.out)
               have n3_ := Aside0.mk (below_drew1 HB.out)
               clear HO_6
               clear BK350
               clear BK357
               clear HB
               have HO_6 := n0_
               have BK350 := n1_
               have BK357 := n2_
               have HB := n3_
               clear n0_ n1_ n2_ n3_
               have p358 : 0 ≤ (x7_1 : Int) := of_decide_eq_true as_
               have q358 : x7_1 < (x6_1.length : Int) := of_decide_eq_true as_
               obtain ⟨ad358, e358, hx358_0⟩ := Kd.at_string (Kd.R_reads' HO_6.out).2.2 x7_1 p358 q358
               obtain rfl : (⟨go9, 0, none⟩ : Addr) = ad358 := (by injection e358)
               (first | simp only [add_plain] at hx358_0 | simp only [add_at] at hx358_0 | simp only [Addr.add, Nat.zero_add] at hx358_0 | skip)
               replace p358 := eq_true p358
               replace q358 := eq_true q358
               refine start_ (n := 18) (S := fun w' => w'.cell? ⟨gb357, 0, none⟩ = some (.int .i64 ((rd_T69 l0_0 x7_1).f4.f0)) ∧ w'.cell? ⟨gb357, 1, none⟩ = some (.string ((rd_T69 l0_0 x7_1).f4.f1)) ∧ w'.cell? ⟨gb357, 2, none⟩ = some (.string ((rd_T69 l0_0 x7_1).f4.f2)) ∧ w'.cell? ⟨go9, (x7_1).toNat, none⟩ = some (.string (rdOf ByteArray.empty x6_1 x7_1))) (ds := []) #[false, false, false, false, false, false, false, false, false, false, false, false, false, false, false, false, false, false] (by kernel_rfl) rfl rfl ⟨(blk_cell BK357.out 0).trans rfl, (blk_cell BK357.out 1).trans rfl, (blk_cell BK357.out 2).trans rfl, hx358_0⟩ (fun hHeld => ?_); refine with_tabW calamusref11_Texts.tab9 calamusref11_Texts.bits9 (fun HT_ HW_ => ?_)
               generalize w33.drew = w34 at HO_6 BK350 BK357 HB hx358_0 hHeld ⊢
               refine pp_ (i := 0) (N := some 43) #[true, false, false, false, false, false, false, false, false, false, false, false, false, false, false, false, false, false] rfl rfl (any_of HT_.out (by kernel_rfl)) (h := ?_)
               refine pp_ (i := 1) (N := some 44) #[true, true, false, false, false, false, false, false, false, false, false, false, false, false, false, false, false, false] rfl rfl (any_of HT_.out (by kernel_rfl)) (h := ?_)
               refine pp_ (i := 2) (N := some 45) #[true, true, true, false, false, false, false, false, false, false, false, false, false, false, false, false, false, false] rfl rfl (any_of HT_.out (by kernel_rfl)) (h := ?_)
               refine pp_ (i := 4) (N := some 47) #[true, true, true, false, true, false, false, false, false, false, false, false, false, false, false, false, false, false] rfl rfl (any_of HT_.out (by kernel_rfl)) (h := ?_)
               refine pp_ (i := 6) (N := some 49) #[true, true, true, false, true, false, true, false, false, false, false, false, false, false, false, false, false, false] rfl rfl (any_of HT_.out (by kernel_rfl)) (h := ?_)
               refine pp_ (i := 8) (N := some 51) #[true, true, true, false, true, false, true, false, true, false, false, false, false, false, false, false, false, false] rfl rfl (any_of HT_.out (by kernel_rfl)) (h := ?_)
               refine take_ (i := 3) (N := some 46) (v := ?_) (a' := ?_) #[true, true, true, true, true, false, true, false, true, false, false, false, false, false, false, false, false, false] rfl rfl (take_ofW HT_.out HW_.out (by kernel_rfl)) (fun _ _ _ h => h) (Or.inl ⟨by rfl, ?_⟩) hHeld ?_ ?_
               rotate_left
               ·rintro w' ⟨s0, s1, s2, s3⟩
                go_simp
                with_reducible rfl
               rotate_left
               ·simp only [Act.put, List.setIfInBounds_toArray, List.set_cons_zero, List.set_cons_succ, i64_w, i32_w]
                rfl
               refine take_ (i := 5) (N := some 48) (v := ?_) (a' := ?_) #[true, true, true, true, true, true, true, false, true, false, false, false, false, false, false, false, false, false] rfl rfl (take_ofW HT_.out HW_.out (by kernel_rfl)) (fun _ _ _ h => h) (Or.inl ⟨by rfl, ?_⟩) hHeld ?_ ?_
               rotate_left
               ·rintro w' ⟨s0, s1, s2, s3⟩
                go_simp
                with_reducible rfl
               rotate_left
               ·simp only [Act.put, List.setIfInBounds_toArray, List.set_cons_zero, List.set_cons_succ, i64_w, i32_w]
                rfl
               refine take_ (i := 7) (N := some 50) (v := ?_) (a' := ?_) #[true, true, true, true, true, true, true, true, true, false, false, false, false, false, false, false, false, false] rfl rfl (take_ofW HT_.out HW_.out (by kernel_rfl)) (fun _ _ _ h => h) (Or.inl ⟨by rfl, ?_⟩) hHeld ?_ ?_
               rotate_left
               ·rintro w' ⟨s0, s1, s2, s3⟩
                go_simp
                with_reducible rfl
               rotate_left
               ·simp only [Act.put, List.setIfInBounds_toArray, List.set_cons_zero, List.set_cons_succ, i64_w, i32_w]
                rfl
               refine take_ (i := 9) (N := some 52) (v := ?_) (a' := ?_) #[true, true, true, true, true, true, true, true, true, true, false, false, false, false, false, false, false, false] rfl rfl (take_ofW HT_.out HW_.out (by kernel_rfl)) (fun _ _ _ h => h) (Or.inl ⟨by rfl, ?_⟩) hHeld ?_ ?_
               rotate_left
               ·rintro w' ⟨s0, s1, s2, s3⟩
                go_simp
                with_reducible rfl
               rotate_left
               ·simp only [Act.put, List.setIfInBounds_toArray, List.set_cons_zero, List.set_cons_succ, i64_w, i32_w]
                rfl
               refine pp_ (i := 10) (N := some 53) #[true, true, true, true, true, true, true, true, true, true, true, false, false, false, false, false, false, false] rfl rfl (any_of HT_.out (by kernel_rfl)) (h := ?_)
               refine one_ (i := 11) (N := some 54) #[true, true, true, true, true, true, true, true, true, true, true, true, false, false, false, false, false, false] rfl rfl (one_of HT_.out (by kernel_rfl)) (by decide) (fun K hK => ?_)
               refine Kd.R_lit_step k24 _ 24 ?hg (N := 54) ?hd (xs := ([(⟨(rd_T69 l0_0 x7_1).f4.f0, (rd_T69 l0_0 x7_1).f4.f2, (rd_T69 l0_0 x7_1).f4.f1⟩ : S24)] : List (S24))) (inner := [.int .i64 ((rd_T69 l0_0 x7_1).f4.f0), .string ((rd_T69 l0_0 x7_1).f4.f2), .string ((rd_T69 l0_0 x7_1).f4.f1)]) (ok := fun _ => True) (okp := fun _ => True) ?hr ?hp (fun _ hk => hk) trivial (Below.refl _ _) (Nat.le_refl _) (by simp) ?_; (case hd => rfl); (case hg => rfl); (case hr => first | (go_simp; done) | (go_simp; rfl)); (case hp => exact (Reps.c3 (show Kd.M k24 _ _ _ (⟨(rd_T69 l0_0 x7_1).f4.f0, (rd_T69 l0_0 x7_1).f4.f2, (rd_T69 l0_0 x7_1).f4.f1⟩ : S24) [.int .i64 ((rd_T69 l0_0 x7_1).f4.f0), .string ((rd_T69 l0_0 x7_1).f4.f2), .string ((rd_T69 l0_0 x7_1).f4.f1)] from (k24_mkM _ _ _ (⟨(rd_T69 l0_0 x7_1).f4.f0, (rd_T69 l0_0 x7_1).f4.f2, (rd_T69 l0_0 x7_1).f4.f1⟩ : S24) )) (Reps.none _ _)))
               intro v360 w35 ho36 hb hg_ hnew_
               have HS3_ := (hb.cell (World.block_lt_of_cell? _ _ (hHeld.2.2.2))).trans (hHeld.2.2.2)
               clear hg_ hnew_
               (first | rw [← Ny359.out] at ho36 | (simp only [Int.reduceToNat] at ho36; rw [← Ny359.out] at ho36))
               have n0_ := Aside0.mk (Kd.R_below (rw_ HO_6.out) hb)
               have n1_ := Aside0.mk (Kd.R_lower (Kd.R_newB ho36 (g := gb357) (o := .cells #[.int .i64 ((rd_T69 l0_0 x7_1).f4.f0), .string ((rd_T69 l0_0 x7_1).f4.f1), .string ((rd_T69 l0_0 x7_1).f4.f2)] 24 (0, 0)) (bw_ BK357.out)) (below_size (hb_ HB)))
               have n2_ := bb_ BK350 hb
               have n3_ := bb_ BK357 hb
               have n4_ := bs_ HB hb
               clear HO_6
               clear BK350
               clear BK357
               clear HB
               have HO_6 := n0_
               have HO361 := n1_
               have BK350 := n2_
               have BK357 := n3_
               have HB := n4_
               clear n0_ n1_ n2_ n3_ n4_
               clear hb ho36
               obtain ⟨Ao37, co37, eo37⟩ := Kd.R_slice HO361.out
               (first | subst eo37 | (injection eo37 with f1_ f2_ f3_; have f4_ := f1_.symm; have f5_ := f3_.symm; clear f1_ f2_ f3_; subst f4_; subst f5_))
               refine hK.out _ _ ⟨(blk_cell BK357.out 0).trans rfl, (blk_cell BK357.out 1).trans rfl, (blk_cell BK357.out 2).trans rfl, HS3_⟩ (fun hHeld => ?_)
               clear hK K
               refine norm_ (a' := ?_) ?_ ?_
               rotate_left
               ·show Act.put _ (some 54) _ = _
                simp only [Act.put, List.setIfInBounds_toArray, List.set_cons_zero, List.set_cons_succ, i64_w, i32_w]
                rfl
               refine one_ (i := 12) (N := some 55) #[true, true, true, true, true, true, true, true, true, true, true, true, true, false, false, false, false, false] rfl rfl (one_of HT_.out (by kernel_rfl)) (by decide) (fun K hK => ?_)
               refine goes_ Try.func22 (by kernel_rfl) rfl #[.string (rdOf ByteArray.empty x6_1 x7_1), .slice Ao37 y359.length co37] (by rfl) rfl rfl (by (try simp only [List.map_toArray, List.map_cons, List.map_nil]); first | done | rfl | (simp only [List.length_drop, List.length_take]; rfl)) ?_
               with_reducible refine (calamusref08_Do.calls k1 (rdOf ByteArray.empty x6_1 x7_1) _ _ y359 t362 t363 _ ?side1 ?side2 A24.out).mono ?_
               (case side1 => repeat (first | exact (Kd.R_reads' HO361.out).2.2 | (with_reducible refine Kd.C_alloc ?_ _) | (with_reducible refine Kd.C_drewN ?_ _) | (with_reducible refine Kd.C_drew ?_)))
               (case side2 => exact (Kd.R_reads' HO361.out).2.1)
               rintro e w38 ⟨rfl, hb⟩
               have HS3_ := (hb.cell (World.block_lt_of_cell? _ _ (hHeld.2.2.2))).trans (hHeld.2.2.2)
               refine ⟨_, rfl, ?_⟩
               have n0_ := Aside0.mk (Kd.R_below (rw_ HO_6.out) hb)
               have n1_ := Aside0.mk (Kd.R_below (rw_ HO361.out) hb)
               have n2_ := bb_ BK350 hb
               have n3_ := bb_ BK357 hb
               have n4_ := bs_ HB hb
               clear HO_6
               clear HO361
               clear BK350
               clear BK357
               clear HB
               have HO_6 := n0_
               have HO361 := n1_
               have BK350 := n2_
               have BK357 := n3_
               have HB := n4_
               clear n0_ n1_ n2_ n3_ n4_
               (try clear hb)
               (try clear hb2)
               (try clear hk)
               (try clear hi)
               refine hK.out _ _ ⟨(blk_cell BK357.out 0).trans rfl, (blk_cell BK357.out 1).trans rfl, (blk_cell BK357.out 2).trans rfl, HS3_⟩ (fun hHeld => ?_)
               clear hK K
               refine norm_ (a' := ?_) ?_ ?_
               rotate_left
               ·show Act.put _ (some 55) _ = _
                simp only [Act.put, List.setIfInBounds_toArray, List.set_cons_zero, List.set_cons_succ, i64_w, i32_w]
                rfl
               refine pp_ (i := 13) (N := some 42) #[true, true, true, true, true, true, true, true, true, true, true, true, true, true, false, false, false, false] rfl rfl (any_of HT_.out (by kernel_rfl)) (h := ?_)
               refine pp_ (i := 14) (N := some 56) #[true, true, true, true, true, true, true, true, true, true, true, true, true, true, true, false, false, false] rfl rfl (any_of HT_.out (by kernel_rfl)) (h := ?_)
               refine pp_ (i := 15) (N := some 57) #[true, true, true, true, true, true, true, true, true, true, true, true, true, true, true, true, false, false] rfl rfl (any_of HT_.out (by kernel_rfl)) (h := ?_)
               refine pp_ (i := 16) (N := some 9) #[true, true, true, true, true, true, true, true, true, true, true, true, true, true, true, true, true, false] rfl rfl (any_of HT_.out (by kernel_rfl)) (h := ?_)
               refine pp_ (i := 17) (N := some 10) #[true, true, true, true, true, true, true, true, true, true, true, true, true, true, true, true, true, true] rfl rfl (any_of HT_.out (by kernel_rfl)) (h := ?_)
               refine done_ (done_of HT_.out (by kernel_rfl)) ?_
               obtain ⟨hcz39_0, hcz39_1, hfz39_0, hfz39_1⟩ := bc2_ BK350
               have p364 : 0 ≤ (x7_1 : Int) := of_decide_eq_true as_
               have q364 : x7_1 < (l0_0.length : Int) := of_decide_eq_true as_
               obtain ⟨ad364, e364, hx364_0, hx364_1, hx364_2, hx364_3, hx364_4, hx364_5, hx364_6⟩ := at_T69b HR0_0 HB x7_1 p364 q364
               obtain rfl : ad356 = ad364 := (by injection e364)
               replace p364 := eq_true p364
               replace q364 := eq_true q364
               have p28 : 0 ≤ (((rd_T69 l0_0 x7_1).f0) : Int) := of_decide_eq_true as_
               have q28 : (((rd_T69 l0_0 x7_1).f0) : Int) < ((x6_1.length : Int) : Int) := of_decide_eq_true as_
               obtain ⟨hx28_0, hf28_0⟩ := Kd.R_celln (⟨#[]⟩ : ByteArray) HO_6.out (((rd_T69 l0_0 x7_1).f0) : Int) p28 q28
               replace p28 := eq_true p28
               replace q28 := eq_true q28
               obtain ⟨hy40_, hz40_⟩ := Kd.R_celln (⟨#[]⟩ : ByteArray) HO_6.out (((rd_T69 l0_0 x7_1).f0) : Int) (of_decide_eq_true as_) (of_decide_eq_true as_)
               have HP40 := Kd.R_putg HO_6.out (((rd_T69 l0_0 x7_1).f0) : Int) t362
               try go_wp2_with (first | ((with_reducible refine gate_store (t := 9) (p := 69) rfl ?_); refine store_event (t := 9) (p := 69) (v := ?vo_w41) (w1 := (w38.setCell ⟨go9, (((rd_T69 l0_0 x7_1).f0) : Int).toNat, none⟩ (.string t362))) ?hg ?ho ?hn ?hr ?_; (case ho => rfl); (case hg => rfl); (case hn => rfl); (case hr => first | (go_simp; done) | (go_simp; rfl)); intro w41 hw; have hg : w38.grownBy w41 (some go9) := (by rw [hw]; exact HP40.2); have hp_ : Kd.R Kd.string 9 w41 w.heap.size (fun _ => True) (.slice (some ⟨go9, 0, none⟩) x6_1.length co9) y365 := (by rw [hw, Ny365.out]; exact HP40.1); clear HP40; replace BK350 := Aside0.mk (blk_grown (g := gb350) (o := .cells #[.slice (some ad356) l0_0.length c0_0, .int .i64 a0_1] 46 (0, 0)) (bw_ BK350.out) hg (Kd.R_ne HO_6.out BK350.out (by decide))); replace BK357 := Aside0.mk (blk_grown (g := gb357) (o := .cells #[.int .i64 ((rd_T69 l0_0 x7_1).f4.f0), .string ((rd_T69 l0_0 x7_1).f4.f1), .string ((rd_T69 l0_0 x7_1).f4.f2)] 24 (0, 0)) (bw_ BK357.out) hg (Kd.R_ne HO_6.out BK357.out (by decide))); replace HO361 := Aside0.mk (Kd.R_over' (v := (.slice (some ⟨go9, 0, none⟩) x6_1.length co9)) (rw_ HO361.out) (Kd.R_typed HO_6.out) (by decide) hg); replace HB := Aside0.mk ((by rw [hw]; exact below_set (HB.out) GB9.out : Below w.heap.size w w41)); replace HO_6 := Aside0.mk (hp_); clear hg hw hp_; obtain ⟨hcz42_0, hcz42_1, hfz42_0, hfz42_1⟩ := bc2_ BK350; have p366 : 0 ≤ (x7_1 : Int) := of_decide_eq_true as_; have q366 : x7_1 < (l0_0.length : Int) := of_decide_eq_true as_; obtain ⟨ad366, e366, hx366_0, hx366_1, hx366_2, hx366_3, hx366_4, hx366_5, hx366_6⟩ := at_T69 HR0_0.out x7_1 p366 q366; obtain rfl : ad356 = ad366 := (by injection e366); replace hx366_0 := cb_ HB hx366_0; replace hx366_1 := cb_ HB hx366_1; replace hx366_2 := cb_ HB hx366_2; replace hx366_3 := cb_ HB hx366_3; replace hx366_4 := cb_ HB hx366_4; replace hx366_5 := cb_ HB hx366_5; replace hx366_6 := cb_ HB hx366_6; replace p366 := eq_true p366; replace q366 := eq_true q366))
               (try simp only [← hl6_1])
               go_roundg k1
               case measure => have := HK1.out; omega
               case rel => exact ⟨(y365), ((rd_T69 l0_0 x7_1).f0), es_, H', ⟨by have := HK1.out; omega⟩, ⟨by (try simp only [hl6_1]); (with_reducible repeat (first | apply Kd.R_alloc | apply Kd.R_drewN | apply Kd.R_drew)); exact HO_6.out⟩, ⟨by (try simp only [hl6_1]); (with_reducible repeat (first | refine blk_drewN ?_ _ | refine blk_drew ?_ | refine blk_alloc ?_ _)); exact BK350.out⟩, ⟨hb_ HB⟩⟩
              ·rw [if_neg c27] at H
               exact absurd H (by simp)
             ·rw [if_neg c26] at H
              exact absurd H (by simp)
            ·rw [if_neg c25] at H
             have c25b0 : (t363 == 0) = false := beq_eq_false_iff_ne.mpr c25
             have c25b1 : (t363 != 0) = true := bne_iff_ne.mpr c25
             simp only [Option.some.injEq, Prod.mk.injEq] at H
             obtain ⟨rfl, rfl⟩ := H
             obtain ⟨hcz43_0, hcz43_1, hfz43_0, hfz43_1⟩ := bc2_ BK350
             have p356 : 0 ≤ (x7_1 : Int) := of_decide_eq_true as_
             have q356 : x7_1 < (l0_0.length : Int) := of_decide_eq_true as_
             obtain ⟨ad356, e356, hx356_0, hx356_1, hx356_2, hx356_3, hx356_4, hx356_5, hx356_6⟩ := at_T69b HR0_0 HB x7_1 p356 q356
             cases e356
             replace p356 := eq_true p356
             replace q356 := eq_true q356
             try go_wp2_with (first | ((with_reducible refine gate_dst (N := 8) rfl ?_); refine be_ (N := 8) (cs := #[.int .i64 0, .string (⟨#[]⟩ : ByteArray), .string (⟨#[]⟩ : ByteArray)]) (t := 24) (h := ?_); intro gb357 hg w44 hbox hb; have BK357 := Aside0.mk (hbox); have GW357 := gw_ HB hg; have GE357 := gw_ HB hg; have NB350_357 := ne_ BK350 hg; have NB357_350 := en_ BK350 hg; replace HO_6 := Aside0.mk (Kd.R_below (rw_ HO_6.out) hb); replace BK350 := bb_ BK350 hb; replace HB := bs_ HB hb; clear hb hbox hg; have hnb45 := NB357_350.out; have hnc45 := NB350_357.out; obtain ⟨hcz46_0, hcz46_1, hcz46_2, hfz46_0, hfz46_1, hfz46_2⟩ := bc3_ BK357))
             obtain ⟨w47, hW_⟩ : ∃ x, x = (((w44.setCell ⟨gb357, 0, none⟩ (.int .i64 ((rd_T69 l0_0 x7_1).f4.f0))).setCell ⟨gb357, 1, none⟩ (.string ((rd_T69 l0_0 x7_1).f4.f1))).setCell ⟨gb357, 2, none⟩ (.string ((rd_T69 l0_0 x7_1).f4.f2))) := ⟨_, rfl⟩
             have n0_ : Aside0 (Kd.R Kd.string 9 w47 w.heap.size (fun _ => True) (.slice (some ⟨go9, 0, none⟩) x6_1.length co9) x6_1) := ⟨by rw [hW_]; (with_reducible repeat (first | apply Kd.R_alloc | apply Kd.R_drewN | apply Kd.R_drew)); exact Kd.R_mono (rf_ (Kd.R_types HO_6.out BK357.out (by decide)) (fun _ hk => hk.2)) (fun _ hk => trivial)⟩
             have n1_ : Aside0 (w47.heap[gb350]? = some (.cells #[.slice (some ad356) l0_0.length c0_0, .int .i64 a0_1] 46 (0, 0))) := ⟨by rw [hW_]; exact bp_ BK350.out⟩
             have n2_ : Aside0 (w47.heap[gb357]? = some (.cells #[.int .i64 ((rd_T69 l0_0 x7_1).f4.f0), .string ((rd_T69 l0_0 x7_1).f4.f1), .string ((rd_T69 l0_0 x7_1).f4.f2)] 24 (0, 0))) := ⟨by rw [hW_]; exact bp_ BK357.out⟩
             have n3_ : Aside0 (Below w.heap.size w w47) := ⟨by rw [hW_]; exact hb_ HB⟩
             (try clear HO_6)
             (try clear BK350)
             (try clear BK357)
             (try clear HB)
             rw [← hW_]; clear hW_
             have HO_6 := n0_
             have BK350 := n1_
             have BK357 := n2_
             have HB := n3_
             clear n0_ n1_ n2_ n3_
             have n0_ := Aside0.mk (Kd.R_drew HO_6.out)
             have n1_ := Aside0.mk (blk_drew BK350.out)
             have n2_ := Aside0.mk (blk_drew BK357.out)
             have n3_ := Aside0.mk (below_drew1 HB.out)
             clear HO_6
             clear BK350
             clear BK357
             clear HB
             have HO_6 := n0_
             have BK350 := n1_
             have BK357 := n2_
             have HB := n3_
             clear n0_ n1_ n2_ n3_
             have p358 : 0 ≤ (x7_1 : Int) := of_decide_eq_true as_
             have q358 : x7_1 < (x6_1.length : Int) := of_decide_eq_true as_
             obtain ⟨ad358, e358, hx358_0⟩ := Kd.at_string (Kd.R_reads' HO_6.out).2.2 x7_1 p358 q358
             obtain rfl : (⟨go9, 0, none⟩ : Addr) = ad358 := (by injection e358)
             (first | simp only [add_plain] at hx358_0 | simp only [add_at] at hx358_0 | simp only [Addr.add, Nat.zero_add] at hx358_0 | skip)
             replace p358 := eq_true p358
             replace q358 := eq_true q358
             refine start_ (n := 18) (S := fun w' => w'.cell? ⟨gb357, 0, none⟩ = some (.int .i64 ((rd_T69 l0_0 x7_1).f4.f0)) ∧ w'.cell? ⟨gb357, 1, none⟩ = some (.string ((rd_T69 l0_0 x7_1).f4.f1)) ∧ w'.cell? ⟨gb357, 2, none⟩ = some (.string ((rd_T69 l0_0 x7_1).f4.f2)) ∧ w'.cell? ⟨go9, (x7_1).toNat, none⟩ = some (.string (rdOf ByteArray.empty x6_1 x7_1))) (ds := []) #[false, false, false, false, false, false, false, false, false, false, false, false, false, false, false, false, false, false] (by kernel_rfl) rfl rfl ⟨(blk_cell BK357.out 0).trans rfl, (blk_cell BK357.out 1).trans rfl, (blk_cell BK357.out 2).trans rfl, hx358_0⟩ (fun hHeld => ?_); refine with_tabW calamusref11_Texts.tab9 calamusref11_Texts.bits9 (fun HT_ HW_ => ?_)
             generalize w47.drew = w48 at HO_6 BK350 BK357 HB hx358_0 hHeld ⊢
             refine pp_ (i := 0) (N := some 43) #[true, false, false, false, false, false, false, false, false, false, false, false, false, false, false, false, false, false] rfl rfl (any_of HT_.out (by kernel_rfl)) (h := ?_)
             refine pp_ (i := 1) (N := some 44) #[true, true, false, false, false, false, false, false, false, false, false, false, false, false, false, false, false, false] rfl rfl (any_of HT_.out (by kernel_rfl)) (h := ?_)
             refine pp_ (i := 2) (N := some 45) #[true, true, true, false, false, false, false, false, false, false, false, false, false, false, false, false, false, false] rfl rfl (any_of HT_.out (by kernel_rfl)) (h := ?_)
             refine pp_ (i := 4) (N := some 47) #[true, true, true, false, true, false, false, false, false, false, false, false, false, false, false, false, false, false] rfl rfl (any_of HT_.out (by kernel_rfl)) (h := ?_)
             refine pp_ (i := 6) (N := some 49) #[true, true, true, false, true, false, true, false, false, false, false, false, false, false, false, false, false, false] rfl rfl (any_of HT_.out (by kernel_rfl)) (h := ?_)
             refine pp_ (i := 8) (N := some 51) #[true, true, true, false, true, false, true, false, true, false, false, false, false, false, false, false, false, false] rfl rfl (any_of HT_.out (by kernel_rfl)) (h := ?_)
             refine take_ (i := 3) (N := some 46) (v := ?_) (a' := ?_) #[true, true, true, true, true, false, true, false, true, false, false, false, false, false, false, false, false, false] rfl rfl (take_ofW HT_.out HW_.out (by kernel_rfl)) (fun _ _ _ h => h) (Or.inl ⟨by rfl, ?_⟩) hHeld ?_ ?_
             rotate_left
             ·rintro w' ⟨s0, s1, s2, s3⟩
              go_simp
              with_reducible rfl
             rotate_left
             ·simp only [Act.put, List.setIfInBounds_toArray, List.set_cons_zero, List.set_cons_succ, i64_w, i32_w]
              rfl
             refine take_ (i := 5) (N := some 48) (v := ?_) (a' := ?_) #[true, true, true, true, true, true, true, false, true, false, false, false, false, false, false, false, false, false] rfl rfl (take_ofW HT_.out HW_.out (by kernel_rfl)) (fun _ _ _ h => h) (Or.inl ⟨by rfl, ?_⟩) hHeld ?_ ?_
             rotate_left
             ·rintro w' ⟨s0, s1, s2, s3⟩
              go_simp
              with_reducible rfl
             rotate_left
             ·simp only [Act.put, List.setIfInBounds_toArray, List.set_cons_zero, List.set_cons_succ, i64_w, i32_w]
              rfl
             refine take_ (i := 7) (N := some 50) (v := ?_) (a' := ?_) #[true, true, true, true, true, true, true, true, true, false, false, false, false, false, false, false, false, false] rfl rfl (take_ofW HT_.out HW_.out (by kernel_rfl)) (fun _ _ _ h => h) (Or.inl ⟨by rfl, ?_⟩) hHeld ?_ ?_
             rotate_left
             ·rintro w' ⟨s0, s1, s2, s3⟩
              go_simp
              with_reducible rfl
             rotate_left
             ·simp only [Act.put, List.setIfInBounds_toArray, List.set_cons_zero, List.set_cons_succ, i64_w, i32_w]
              rfl
             refine take_ (i := 9) (N := some 52) (v := ?_) (a' := ?_) #[true, true, true, true, true, true, true, true, true, true, false, false, false, false, false, false, false, false] rfl rfl (take_ofW HT_.out HW_.out (by kernel_rfl)) (fun _ _ _ h => h) (Or.inl ⟨by rfl, ?_⟩) hHeld ?_ ?_
             rotate_left
             ·rintro w' ⟨s0, s1, s2, s3⟩
              go_simp
              with_reducible rfl
             rotate_left
             ·simp only [Act.put, List.setIfInBounds_toArray, List.set_cons_zero, List.set_cons_succ, i64_w, i32_w]
              rfl
             refine pp_ (i := 10) (N := some 53) #[true, true, true, true, true, true, true, true, true, true, true, false, false, false, false, false, false, false] rfl rfl (any_of HT_.out (by kernel_rfl)) (h := ?_)
             refine one_ (i := 11) (N := some 54) #[true, true, true, true, true, true, true, true, true, true, true, true, false, false, false, false, false, false] rfl rfl (one_of HT_.out (by kernel_rfl)) (by decide) (fun K hK => ?_)
             refine Kd.R_lit_step k24 _ 24 ?hg (N := 54) ?hd (xs := ([(⟨(rd_T69 l0_0 x7_1).f4.f0, (rd_T69 l0_0 x7_1).f4.f2, (rd_T69 l0_0 x7_1).f4.f1⟩ : S24)] : List (S24))) (inner := [.int .i64 ((rd_T69 l0_0 x7_1).f4.f0), .string ((rd_T69 l0_0 x7_1).f4.f2), .string ((rd_T69 l0_0 x7_1).f4.f1)]) (ok := fun _ => True) (okp := fun _ => True) ?hr ?hp (fun _ hk => hk) trivial (Below.refl _ _) (Nat.le_refl _) (by simp) ?_; (case hd => rfl); (case hg => rfl); (case hr => first | (go_simp; done) | (go_simp; rfl)); (case hp => exact (Reps.c3 (show Kd.M k24 _ _ _ (⟨(rd_T69 l0_0 x7_1).f4.f0, (rd_T69 l0_0 x7_1).f4.f2, (rd_T69 l0_0 x7_1).f4.f1⟩ : S24) [.int .i64 ((rd_T69 l0_0 x7_1).f4.f0), .string ((rd_T69 l0_0 x7_1).f4.f2), .string ((rd_T69 l0_0 x7_1).f4.f1)] from (k24_mkM _ _ _ (⟨(rd_T69 l0_0 x7_1).f4.f0, (rd_T69 l0_0 x7_1).f4.f2, (rd_T69 l0_0 x7_1).f4.f1⟩ : S24) )) (Reps.none _ _)))
             intro v360 w49 ho50 hb hg_ hnew_
             have HS3_ := (hb.cell (World.block_lt_of_cell? _ _ (hHeld.2.2.2))).trans (hHeld.2.2.2)
             clear hg_ hnew_
             (first | rw [← Ny359.out] at ho50 | (simp only [Int.reduceToNat] at ho50; rw [← Ny359.out] at ho50))
             have n0_ := Aside0.mk (Kd.R_below (rw_ HO_6.out) hb)
             have n1_ := Aside0.mk (Kd.R_lower (Kd.R_newB ho50 (g := gb357) (o := .cells #[.int .i64 ((rd_T69 l0_0 x7_1).f4.f0), .string ((rd_T69 l0_0 x7_1).f4.f1), .string ((rd_T69 l0_0 x7_1).f4.f2)] 24 (0, 0)) (bw_ BK357.out)) (below_size (hb_ HB)))
             have n2_ := bb_ BK350 hb
             have n3_ := bb_ BK357 hb
             have n4_ := bs_ HB hb
             clear HO_6
             clear BK350
             clear BK357
             clear HB
             have HO_6 := n0_
             have HO361 := n1_
             have BK350 := n2_
             have BK357 := n3_
             have HB := n4_
             clear n0_ n1_ n2_ n3_ n4_
             clear hb ho50
             obtain ⟨Ao51, co51, eo51⟩ := Kd.R_slice HO361.out
             (first | subst eo51 | (injection eo51 with f1_ f2_ f3_; have f4_ := f1_.symm; have f5_ := f3_.symm; clear f1_ f2_ f3_; subst f4_; subst f5_))
             refine hK.out _ _ ⟨(blk_cell BK357.out 0).trans rfl, (blk_cell BK357.out 1).trans rfl, (blk_cell BK357.out 2).trans rfl, HS3_⟩ (fun hHeld => ?_)
             clear hK K
             refine norm_ (a' := ?_) ?_ ?_
             rotate_left
             ·show Act.put _ (some 54) _ = _
              simp only [Act.put, List.setIfInBounds_toArray, List.set_cons_zero, List.set_cons_succ, i64_w, i32_w]
              rfl
             refine one_ (i := 12) (N := some 55) #[true, true, true, true, true, true, true, true, true, true, true, true, true, false, false, false, false, false] rfl rfl (one_of HT_.out (by kernel_rfl)) (by decide) (fun K hK => ?_)
             refine goes_ Try.func22 (by kernel_rfl) rfl #[.string (rdOf ByteArray.empty x6_1 x7_1), .slice Ao51 y359.length co51] (by rfl) rfl rfl (by (try simp only [List.map_toArray, List.map_cons, List.map_nil]); first | done | rfl | (simp only [List.length_drop, List.length_take]; rfl)) ?_
             with_reducible refine (calamusref08_Do.calls k1 (rdOf ByteArray.empty x6_1 x7_1) _ _ y359 t362 t363 _ ?side1 ?side2 A24.out).mono ?_
             (case side1 => repeat (first | exact (Kd.R_reads' HO361.out).2.2 | (with_reducible refine Kd.C_alloc ?_ _) | (with_reducible refine Kd.C_drewN ?_ _) | (with_reducible refine Kd.C_drew ?_)))
             (case side2 => exact (Kd.R_reads' HO361.out).2.1)
             rintro e w52 ⟨rfl, hb⟩
             have HS3_ := (hb.cell (World.block_lt_of_cell? _ _ (hHeld.2.2.2))).trans (hHeld.2.2.2)
             refine ⟨_, rfl, ?_⟩
             have n0_ := Aside0.mk (Kd.R_below (rw_ HO_6.out) hb)
             have n1_ := Aside0.mk (Kd.R_below (rw_ HO361.out) hb)
             have n2_ := bb_ BK350 hb
             have n3_ := bb_ BK357 hb
             have n4_ := bs_ HB hb
             clear HO_6
             clear HO361
             clear BK350
             clear BK357
             clear HB
             have HO_6 := n0_
             have HO361 := n1_
             have BK350 := n2_
             have BK357 := n3_
             have HB := n4_
             clear n0_ n1_ n2_ n3_ n4_
             (try clear hb)
             (try clear hb2)
             (try clear hk)
             (try clear hi)
             refine hK.out _ _ ⟨(blk_cell BK357.out 0).trans rfl, (blk_cell BK357.out 1).trans rfl, (blk_cell BK357.out 2).trans rfl, HS3_⟩ (fun hHeld => ?_)
             clear hK K
             refine norm_ (a' := ?_) ?_ ?_
             rotate_left
             ·show Act.put _ (some 55) _ = _
              simp only [Act.put, List.setIfInBounds_toArray, List.set_cons_zero, List.set_cons_succ, i64_w, i32_w]
              rfl
             refine pp_ (i := 13) (N := some 42) #[true, true, true, true, true, true, true, true, true, true, true, true, true, true, false, false, false, false] rfl rfl (any_of HT_.out (by kernel_rfl)) (h := ?_)
             refine pp_ (i := 14) (N := some 56) #[true, true, true, true, true, true, true, true, true, true, true, true, true, true, true, false, false, false] rfl rfl (any_of HT_.out (by kernel_rfl)) (h := ?_)
             refine pp_ (i := 15) (N := some 57) #[true, true, true, true, true, true, true, true, true, true, true, true, true, true, true, true, false, false] rfl rfl (any_of HT_.out (by kernel_rfl)) (h := ?_)
             refine pp_ (i := 16) (N := some 9) #[true, true, true, true, true, true, true, true, true, true, true, true, true, true, true, true, true, false] rfl rfl (any_of HT_.out (by kernel_rfl)) (h := ?_)
             refine pp_ (i := 17) (N := some 10) #[true, true, true, true, true, true, true, true, true, true, true, true, true, true, true, true, true, true] rfl rfl (any_of HT_.out (by kernel_rfl)) (h := ?_)
             refine done_ (done_of HT_.out (by kernel_rfl)) ?_
             try go_wp2
             go_ret2
             exact ⟨_, er_, by first | exact Kd.R_nil _ _ _ _ _ | exact Kd.N_nil _ _ _ _ _ | exact Kd.V_nil _ _ _ _ _ | exact Kd.Q_nil _ _ _ _ _ | exact Kd.S_nil _ _ _ _ _, hb_ HB⟩
           ·rw [if_neg c23] at H
            exact absurd H (by simp)
          ·rw [if_neg c22] at H
           exact absurd H (by simp)
         ·rw [if_neg c21] at H
          exact absurd H (by simp)
        ·rw [if_neg c20] at H
         have c20b0 : decide (0 < x7_1) = false := decide_eq_false c20
         clear c20
         have H' := Aside0.mk H
         clear H
         go_wp2
         go_loopg [11] k1 (fun kq v11 w' => ∃ (x6_2 : List ByteArray) (x11_2 : Int), v11 = .int .i64 x11_2 ∧ Aside0 (calamusref11_Texts.l1 kq x6_2 x11_2 l0_0 a0_1 = some (r1, r2)) ∧ Aside0 (kq ≤ k1) ∧ Aside0 (Kd.R Kd.string 9 w' w.heap.size (fun _ => True) (.slice (some ⟨go9, 0, none⟩) x6_1.length co9) x6_2) ∧ Aside0 (w'.heap[gb350]? = some (.cells #[(.slice A0_0 l0_0.length c0_0), .int .i64 a0_1] 46 (0, 0))) ∧ Aside0 (Below w.heap.size w w'))
         case atStart => exact ⟨(x6_1), (0), es_, H', ⟨Nat.le_refl _⟩, ⟨by (try simp only [hl6_1]); (with_reducible repeat (first | apply Kd.R_alloc | apply Kd.R_drewN | apply Kd.R_drew)); exact HO_6.out⟩, ⟨by (try simp only [hl6_1]); (with_reducible repeat (first | refine blk_drewN ?_ _ | refine blk_drew ?_ | refine blk_alloc ?_ _)); exact BK350.out⟩, ⟨hb_ HB⟩⟩
         case round =>
          clear H'
          try clear c4
          try clear c20
          try clear c20b0
          obtain ⟨x6_2, x11_2, rfl, HA, HK2, HO_6, BK350, HB⟩ := hrel
          have hl6_2 := (Kd.R_reads' HO_6.out).1
          rw [hl6_2] at HO_6
          (try simp only [hl6_2])
          (try simp only [hl6_2] at BK350)
          cases gk with
          | zero => exact absurd HA.out (by simp [calamusref11_Texts.l1])
          | succ k2 =>
           have H := HA.out
           clear HA
           simp only [calamusref11_Texts.l1] at H
           by_cases c53 : x11_2 < (l0_0.length : Int)
           ·rw [if_pos c53] at H
            have c53b0 : decide (x11_2 < (l0_0.length : Int)) = true := decide_eq_true c53
            clear c53
            replace H := Option.bind_eq_some_iff.mp H
            obtain ⟨t367, A540, H⟩ := H
            replace H : (if t367 = true then (calamusref11_Texts.l1 k2 x6_2 (wrap64 (x11_2 + 1)) l0_0 a0_1) else (if 0 ≤ x11_2 then (if 0 ≤ ((rd_T69 l0_0 x11_2).f0) then (if ((rd_T69 l0_0 x11_2).f0) < (x6_2.length : Int) then ((calamusref08_Do.f k2 (rdOf ByteArray.empty x6_2 ((rd_T69 l0_0 x11_2).f0)) (([(⟨(rd_T69 l0_0 x11_2).f4.f0, (rd_T69 l0_0 x11_2).f4.f1, (rd_T69 l0_0 x11_2).f4.f2⟩ : S24)] : List (S24)))).bind fun bt374 => (if bt374.2 = 0 then (if x11_2 < (x6_2.length : Int) then (calamusref11_Texts.l1 k2 (x6_2.set (x11_2 : Int).toNat bt374.1) (wrap64 (x11_2 + 1)) l0_0 a0_1) else (none)) else (some (([] : List ByteArray), bt374.2)))) else (none)) else (none)) else (none))) = some (r1, r2) := H
            have A54 := Aside0.mk A540
            clear A540
            by_cases c55 : t367 = true
            ·subst c55
             have H1 : (calamusref11_Texts.l1 k2 x6_2 (wrap64 (x11_2 + 1)) l0_0 a0_1) = some (r1, r2) := by rw [if_pos rfl] at H; exact H
             clear H
             have H := H1
             clear H1
             have H' := Aside0.mk H
             clear H
             obtain ⟨hcz56_0, hcz56_1, hfz56_0, hfz56_1⟩ := bc2_ BK350
             go_wp2_with (first | ((with_reducible refine gate_callee (f := 89) rfl ?_); refine ge_ (some 81) rfl rfl Try.func89 (by kernel_rfl) rfl #[.agg #[.slice A0_0 l0_0.length c0_0, .int .i64 a0_1], .int .i64 x11_2, .int .i64 a0_1] rfl (h := ?_); (with_reducible refine (calamusref11_on.calls k2 _ _ l0_0 a0_1 x11_2 a0_1 true _ ?side1 ?side2 A54.out).mono ?_); (case side1 => exact cw_ (Kd.C_below HR0_0.out HB.out)); (case side2 => exact HC0_0.out); rintro e w57 ⟨rfl, hb⟩; refine ⟨_, rfl, ?_⟩; replace HO_6 := Aside0.mk (Kd.R_below (rw_ HO_6.out) hb); replace BK350 := bb_ BK350 hb; replace HB := bs_ HB hb; (try clear hb); (try clear hb2); (try clear hk); (try clear hi)))
             (try simp only [← hl6_2])
             go_roundg k2
             case measure => have := HK1.out; have := HK2.out; omega
             case rel => exact ⟨(x6_2), (wrap64 (x11_2 + 1)), es_, H', ⟨by have := HK1.out; have := HK2.out; omega⟩, ⟨by (try simp only [hl6_1]); (try simp only [hl6_2]); (with_reducible repeat (first | apply Kd.R_alloc | apply Kd.R_drewN | apply Kd.R_drew)); exact HO_6.out⟩, ⟨by (try simp only [hl6_1]); (try simp only [hl6_2]); (with_reducible repeat (first | refine blk_drewN ?_ _ | refine blk_drew ?_ | refine blk_alloc ?_ _)); exact BK350.out⟩, ⟨hb_ HB⟩⟩
            ·replace c55 := Bool.eq_false_iff.mpr c55
             subst c55
             have H1 : (if 0 ≤ x11_2 then (if 0 ≤ ((rd_T69 l0_0 x11_2).f0) then (if ((rd_T69 l0_0 x11_2).f0) < (x6_2.length : Int) then ((calamusref08_Do.f k2 (rdOf ByteArray.empty x6_2 ((rd_T69 l0_0 x11_2).f0)) (([(⟨(rd_T69 l0_0 x11_2).f4.f0, (rd_T69 l0_0 x11_2).f4.f1, (rd_T69 l0_0 x11_2).f4.f2⟩ : S24)] : List (S24)))).bind fun bt374 => (if bt374.2 = 0 then (if x11_2 < (x6_2.length : Int) then (calamusref11_Texts.l1 k2 (x6_2.set (x11_2 : Int).toNat bt374.1) (wrap64 (x11_2 + 1)) l0_0 a0_1) else (none)) else (some (([] : List ByteArray), bt374.2)))) else (none)) else (none)) else (none)) = some (r1, r2) := by rw [if_neg (show ¬ (false = true) by decide)] at H; exact H
             clear H
             have H := H1
             clear H1
             by_cases c58 : 0 ≤ x11_2
             ·rw [if_pos c58] at H
              have c58b0 : decide (0 ≤ x11_2) = true := decide_eq_true c58
              clear c58
              by_cases c59 : 0 ≤ ((rd_T69 l0_0 x11_2).f0)
              ·rw [if_pos c59] at H
               have c59b0 : decide (0 ≤ ((rd_T69 l0_0 x11_2).f0)) = true := decide_eq_true c59
               clear c59
               by_cases c60 : ((rd_T69 l0_0 x11_2).f0) < (x6_2.length : Int)
               ·rw [if_pos c60] at H
                have c60b0 : decide (((rd_T69 l0_0 x11_2).f0) < (x6_2.length : Int)) = true := decide_eq_true c60
                clear c60
                obtain ⟨y371, hy371⟩ : ∃ y_ : List (S24), y_ = (([(⟨(rd_T69 l0_0 x11_2).f4.f0, (rd_T69 l0_0 x11_2).f4.f1, (rd_T69 l0_0 x11_2).f4.f2⟩ : S24)] : List (S24))) := ⟨_, rfl⟩
                replace H : ((calamusref08_Do.f k2 (rdOf ByteArray.empty x6_2 ((rd_T69 l0_0 x11_2).f0)) y371).bind fun bt374 => (if bt374.2 = 0 then (if x11_2 < (x6_2.length : Int) then (calamusref11_Texts.l1 k2 (x6_2.set (x11_2 : Int).toNat bt374.1) (wrap64 (x11_2 + 1)) l0_0 a0_1) else (none)) else (some (([] : List ByteArray), bt374.2)))) = some (r1, r2) := th_ H hy371
                have Ny371 := Aside0.mk hy371
                clear hy371
                replace H := Option.bind_eq_some_iff.mp H
                obtain ⟨⟨t374, t375⟩, A610, H⟩ := H
                replace H : (if t375 = 0 then (if x11_2 < (x6_2.length : Int) then (calamusref11_Texts.l1 k2 (x6_2.set (x11_2 : Int).toNat t374) (wrap64 (x11_2 + 1)) l0_0 a0_1) else (none)) else (some (([] : List ByteArray), t375))) = some (r1, r2) := H
                have A61 := Aside0.mk A610
                clear A610
                by_cases c62 : t375 = 0
                ·rw [if_pos c62] at H
                 have c62b0 : (t375 == 0) = true := beq_iff_eq.mpr c62
                 have c62b1 : (t375 != 0) = false := bne_eq_false_iff_eq.mpr c62
                 clear c62
                 by_cases c63 : x11_2 < (x6_2.length : Int)
                 ·rw [if_pos c63] at H
                  have c63b0 : decide (x11_2 < (x6_2.length : Int)) = true := decide_eq_true c63
                  clear c63
                  obtain ⟨y376, hy376⟩ : ∃ y_ : List ByteArray, y_ = (x6_2.set (x11_2 : Int).toNat t374) := ⟨_, rfl⟩
                  replace H : (calamusref11_Texts.l1 k2 y376 (wrap64 (x11_2 + 1)) l0_0 a0_1) = some (r1, r2) := th_ H hy376
                  have Ny376 := Aside0.mk hy376
                  clear hy376
                  have H' := Aside0.mk H
                  clear H
                  obtain ⟨hcz65_0, hcz65_1, hfz65_0, hfz65_1⟩ := bc2_ BK350
                  try go_wp2_with (first | ((with_reducible refine gate_callee (f := 89) rfl ?_); refine ge_ (some 81) rfl rfl Try.func89 (by kernel_rfl) rfl #[.agg #[.slice A0_0 l0_0.length c0_0, .int .i64 a0_1], .int .i64 x11_2, .int .i64 a0_1] rfl (h := ?_); (with_reducible refine (calamusref11_on.calls k2 _ _ l0_0 a0_1 x11_2 a0_1 false _ ?side1 ?side2 A54.out).mono ?_); (case side1 => exact cw_ (Kd.C_below HR0_0.out HB.out)); (case side2 => exact HC0_0.out); rintro e w66 ⟨rfl, hb⟩; refine ⟨_, rfl, ?_⟩; replace HO_6 := Aside0.mk (Kd.R_below (rw_ HO_6.out) hb); replace BK350 := bb_ BK350 hb; replace HB := bs_ HB hb; (try clear hb); (try clear hb2); (try clear hk); (try clear hi)))
                  have n0_ := Aside0.mk (Kd.R_drew HO_6.out)
                  have n1_ := Aside0.mk (blk_drew BK350.out)
                  have n2_ := Aside0.mk (below_drew1 HB.out)
                  clear HO_6
                  clear BK350
                  clear HB
                  have HO_6 := n0_
                  have BK350 := n1_
                  have HB := n2_
                  clear n0_ n1_ n2_
                  have p368 : 0 ≤ (x11_2 : Int) := of_decide_eq_true as_
                  have q368 : x11_2 < (l0_0.length : Int) := of_decide_eq_true as_
                  obtain ⟨ad368, e368, hx368_0, hx368_1, hx368_2, hx368_3, hx368_4, hx368_5, hx368_6⟩ := at_T69 HR0_0.out x11_2 p368 q368
                  have hw368_6 := hx368_6
                  have hw368_5 := hx368_5
                  have hw368_4 := hx368_4
                  have hw368_3 := hx368_3
                  have hw368_2 := hx368_2
                  have hw368_1 := hx368_1
                  have hw368_0 := hx368_0
                  cases e368
                  replace hx368_0 := cb_ HB hx368_0
                  replace hx368_1 := cb_ HB hx368_1
                  replace hx368_2 := cb_ HB hx368_2
                  replace hx368_3 := cb_ HB hx368_3
                  replace hx368_4 := cb_ HB hx368_4
                  replace hx368_5 := cb_ HB hx368_5
                  replace hx368_6 := cb_ HB hx368_6
                  replace p368 := eq_true p368
                  replace q368 := eq_true q368
                  have p369 : 0 ≤ (((rd_T69 l0_0 x11_2).f0) : Int) := of_decide_eq_true as_
                  have q369 : ((rd_T69 l0_0 x11_2).f0) < (x6_2.length : Int) := of_decide_eq_true as_
                  obtain ⟨ad369, e369, hx369_0⟩ := Kd.at_string (Kd.R_reads' HO_6.out).2.2 ((rd_T69 l0_0 x11_2).f0) p369 q369
                  obtain rfl : (⟨go9, 0, none⟩ : Addr) = ad369 := (by injection e369)
                  (first | simp only [add_plain] at hx369_0 | simp only [add_at] at hx369_0 | simp only [Addr.add, Nat.zero_add] at hx369_0 | skip)
                  replace p369 := eq_true p369
                  replace q369 := eq_true q369
                  have p370 : 0 ≤ (x11_2 : Int) := of_decide_eq_true as_
                  have q370 : x11_2 < (l0_0.length : Int) := of_decide_eq_true as_
                  obtain ⟨ad370, e370, hx370_0, hx370_1, hx370_2, hx370_3, hx370_4, hx370_5, hx370_6⟩ := at_T69 HR0_0.out x11_2 p370 q370
                  have hw370_6 := hx370_6
                  have hw370_5 := hx370_5
                  have hw370_4 := hx370_4
                  have hw370_3 := hx370_3
                  have hw370_2 := hx370_2
                  have hw370_1 := hx370_1
                  have hw370_0 := hx370_0
                  obtain rfl : ad368 = ad370 := (by injection e370)
                  replace hx370_0 := cb_ HB hx370_0
                  replace hx370_1 := cb_ HB hx370_1
                  replace hx370_2 := cb_ HB hx370_2
                  replace hx370_3 := cb_ HB hx370_3
                  replace hx370_4 := cb_ HB hx370_4
                  replace hx370_5 := cb_ HB hx370_5
                  replace hx370_6 := cb_ HB hx370_6
                  replace p370 := eq_true p370
                  replace q370 := eq_true q370
                  refine start_ (n := 22) (S := fun w' => w'.cell? ⟨gb350, 0, none⟩ = some (.slice (some ad368) l0_0.length c0_0) ∧ w'.cell? ⟨gb350, 1, none⟩ = some (.int .i64 a0_1) ∧ w'.cell? (ad368.add ((x11_2).toNat * 7)) = some (.int .i64 ((rd_T69 l0_0 x11_2).f0)) ∧ w'.cell? ⟨(ad368.add ((x11_2).toNat * 7)).block, (ad368.add ((x11_2).toNat * 7)).off + 1, none⟩ = some (.int .i64 ((rd_T69 l0_0 x11_2).f1)) ∧ w'.cell? ⟨(ad368.add ((x11_2).toNat * 7)).block, (ad368.add ((x11_2).toNat * 7)).off + 2, none⟩ = some (.int .i64 ((rd_T69 l0_0 x11_2).f2)) ∧ w'.cell? ⟨(ad368.add ((x11_2).toNat * 7)).block, (ad368.add ((x11_2).toNat * 7)).off + 3, none⟩ = some (.int .i64 ((rd_T69 l0_0 x11_2).f3)) ∧ w'.cell? ⟨(ad368.add ((x11_2).toNat * 7)).block, (ad368.add ((x11_2).toNat * 7)).off + 4, none⟩ = some (.int .i64 ((rd_T69 l0_0 x11_2).f4.f0)) ∧ w'.cell? ⟨(ad368.add ((x11_2).toNat * 7)).block, (ad368.add ((x11_2).toNat * 7)).off + 5, none⟩ = some (.string ((rd_T69 l0_0 x11_2).f4.f1)) ∧ w'.cell? ⟨(ad368.add ((x11_2).toNat * 7)).block, (ad368.add ((x11_2).toNat * 7)).off + 6, none⟩ = some (.string ((rd_T69 l0_0 x11_2).f4.f2)) ∧ w'.cell? ⟨go9, (((rd_T69 l0_0 x11_2).f0)).toNat, none⟩ = some (.string (rdOf ByteArray.empty x6_2 ((rd_T69 l0_0 x11_2).f0))) ∧ w'.cell? (ad368.add ((x11_2).toNat * 7)) = some (.int .i64 ((rd_T69 l0_0 x11_2).f0)) ∧ w'.cell? ⟨(ad368.add ((x11_2).toNat * 7)).block, (ad368.add ((x11_2).toNat * 7)).off + 1, none⟩ = some (.int .i64 ((rd_T69 l0_0 x11_2).f1)) ∧ w'.cell? ⟨(ad368.add ((x11_2).toNat * 7)).block, (ad368.add ((x11_2).toNat * 7)).off + 2, none⟩ = some (.int .i64 ((rd_T69 l0_0 x11_2).f2)) ∧ w'.cell? ⟨(ad368.add ((x11_2).toNat * 7)).block, (ad368.add ((x11_2).toNat * 7)).off + 3, none⟩ = some (.int .i64 ((rd_T69 l0_0 x11_2).f3)) ∧ w'.cell? ⟨(ad368.add ((x11_2).toNat * 7)).block, (ad368.add ((x11_2).toNat * 7)).off + 4, none⟩ = some (.int .i64 ((rd_T69 l0_0 x11_2).f4.f0)) ∧ w'.cell? ⟨(ad368.add ((x11_2).toNat * 7)).block, (ad368.add ((x11_2).toNat * 7)).off + 5, none⟩ = some (.string ((rd_T69 l0_0 x11_2).f4.f1)) ∧ w'.cell? ⟨(ad368.add ((x11_2).toNat * 7)).block, (ad368.add ((x11_2).toNat * 7)).off + 6, none⟩ = some (.string ((rd_T69 l0_0 x11_2).f4.f2))) (ds := []) #[false, false, false, false, false, false, false, false, false, false, false, false, false, false, false, false, false, false, false, false, false, false] (by kernel_rfl) rfl rfl ⟨(blk_cell BK350.out 0).trans rfl, (blk_cell BK350.out 1).trans rfl, ((HB.out.cell (World.block_lt_of_cell? w _ hw368_0)).trans hw368_0), ((HB.out.cell (World.block_lt_of_cell? w _ hw368_1)).trans hw368_1), ((HB.out.cell (World.block_lt_of_cell? w _ hw368_2)).trans hw368_2), ((HB.out.cell (World.block_lt_of_cell? w _ hw368_3)).trans hw368_3), ((HB.out.cell (World.block_lt_of_cell? w _ hw368_4)).trans hw368_4), ((HB.out.cell (World.block_lt_of_cell? w _ hw368_5)).trans hw368_5), ((HB.out.cell (World.block_lt_of_cell? w _ hw368_6)).trans hw368_6), hx369_0, ((HB.out.cell (World.block_lt_of_cell? w _ hw370_0)).trans hw370_0), ((HB.out.cell (World.block_lt_of_cell? w _ hw370_1)).trans hw370_1), ((HB.out.cell (World.block_lt_of_cell? w _ hw370_2)).trans hw370_2), ((HB.out.cell (World.block_lt_of_cell? w _ hw370_3)).trans hw370_3), ((HB.out.cell (World.block_lt_of_cell? w _ hw370_4)).trans hw370_4), ((HB.out.cell (World.block_lt_of_cell? w _ hw370_5)).trans hw370_5), ((HB.out.cell (World.block_lt_of_cell? w _ hw370_6)).trans hw370_6)⟩ (fun hHeld => ?_); refine with_tabW calamusref11_Texts.tab17 calamusref11_Texts.bits17 (fun HT_ HW_ => ?_)
                  generalize w66.drew = w67 at HO_6 BK350 HB hx368_0 hx368_1 hx368_2 hx368_3 hx368_4 hx368_5 hx368_6 hx369_0 hx370_0 hx370_1 hx370_2 hx370_3 hx370_4 hx370_5 hx370_6 hHeld ⊢
                  refine pp_ (i := 0) (N := some 83) #[true, false, false, false, false, false, false, false, false, false, false, false, false, false, false, false, false, false, false, false, false, false] rfl rfl (any_of HT_.out (by kernel_rfl)) (h := ?_)
                  refine pp_ (i := 1) (N := some 84) #[true, true, false, false, false, false, false, false, false, false, false, false, false, false, false, false, false, false, false, false, false, false] rfl rfl (any_of HT_.out (by kernel_rfl)) (h := ?_)
                  refine pp_ (i := 3) (N := some 86) #[true, true, false, true, false, false, false, false, false, false, false, false, false, false, false, false, false, false, false, false, false, false] rfl rfl (any_of HT_.out (by kernel_rfl)) (h := ?_)
                  refine pp_ (i := 9) (N := some 92) #[true, true, false, true, false, false, false, false, false, true, false, false, false, false, false, false, false, false, false, false, false, false] rfl rfl (any_of HT_.out (by kernel_rfl)) (h := ?_)
                  refine pp_ (i := 11) (N := some 94) #[true, true, false, true, false, false, false, false, false, true, false, true, false, false, false, false, false, false, false, false, false, false] rfl rfl (any_of HT_.out (by kernel_rfl)) (h := ?_)
                  refine take_ (i := 2) (N := some 85) (v := ?_) (a' := ?_) #[true, true, true, true, false, false, false, false, false, true, false, true, false, false, false, false, false, false, false, false, false, false] rfl rfl (take_ofW HT_.out HW_.out (by kernel_rfl)) (fun _ _ _ h => h) (Or.inl ⟨by rfl, ?_⟩) hHeld ?_ ?_
                  rotate_left
                  ·rintro w' ⟨s0, s1, s2, s3, s4, s5, s6, s7, s8, s9, s10, s11, s12, s13, s14, s15, s16⟩
                   go_simp
                   with_reducible rfl
                  rotate_left
                  ·simp only [Act.put, List.setIfInBounds_toArray, List.set_cons_zero, List.set_cons_succ, i64_w, i32_w]
                   rfl
                  refine pp_ (i := 4) (N := some 87) #[true, true, true, true, true, false, false, false, false, true, false, true, false, false, false, false, false, false, false, false, false, false] rfl rfl (any_of HT_.out (by kernel_rfl)) (h := ?_)
                  refine pp_ (i := 5) (N := some 88) #[true, true, true, true, true, true, false, false, false, true, false, true, false, false, false, false, false, false, false, false, false, false] rfl rfl (any_of HT_.out (by kernel_rfl)) (h := ?_)
                  refine take_ (i := 6) (N := some 89) (v := ?_) (a' := ?_) #[true, true, true, true, true, true, true, false, false, true, false, true, false, false, false, false, false, false, false, false, false, false] rfl rfl (take_ofW HT_.out HW_.out (by kernel_rfl)) (fun _ _ _ h => h) (Or.inl ⟨by rfl, ?_⟩) hHeld ?_ ?_
                  rotate_left
                  ·rintro w' ⟨s0, s1, s2, s3, s4, s5, s6, s7, s8, s9, s10, s11, s12, s13, s14, s15, s16⟩
                   go_simp
                   with_reducible rfl
                  rotate_left
                  ·simp only [Act.put, List.setIfInBounds_toArray, List.set_cons_zero, List.set_cons_succ, i64_w, i32_w]
                   rfl
                  refine pp_ (i := 7) (N := some 90) #[true, true, true, true, true, true, true, true, false, true, false, true, false, false, false, false, false, false, false, false, false, false] rfl rfl (any_of HT_.out (by kernel_rfl)) (h := ?_)
                  refine take_ (i := 8) (N := some 91) (v := ?_) (a' := ?_) #[true, true, true, true, true, true, true, true, true, true, false, true, false, false, false, false, false, false, false, false, false, false] rfl rfl (take_ofW HT_.out HW_.out (by kernel_rfl)) (fun _ _ _ h => h) (Or.inl ⟨by rfl, ?_⟩) hHeld ?_ ?_
                  rotate_left
                  ·rintro w' ⟨s0, s1, s2, s3, s4, s5, s6, s7, s8, s9, s10, s11, s12, s13, s14, s15, s16⟩
                   go_simp
                   with_reducible rfl
                  rotate_left
                  ·simp only [Act.put, List.setIfInBounds_toArray, List.set_cons_zero, List.set_cons_succ, i64_w, i32_w]
                   rfl
                  refine take_ (i := 10) (N := some 93) (v := ?_) (a' := ?_) #[true, true, true, true, true, true, true, true, true, true, true, true, false, false, false, false, false, false, false, false, false, false] rfl rfl (take_ofW HT_.out HW_.out (by kernel_rfl)) (fun _ _ _ h => h) (Or.inl ⟨by rfl, ?_⟩) hHeld ?_ ?_
                  rotate_left
                  ·rintro w' ⟨s0, s1, s2, s3, s4, s5, s6, s7, s8, s9, s10, s11, s12, s13, s14, s15, s16⟩
                   go_simp
                   with_reducible rfl
                  rotate_left
                  ·simp only [Act.put, List.setIfInBounds_toArray, List.set_cons_zero, List.set_cons_succ, i64_w, i32_w]
                   rfl
                  refine pp_ (i := 12) (N := some 95) #[true, true, true, true, true, true, true, true, true, true, true, true, true, false, false, false, false, false, false, false, false, false] rfl rfl (any_of HT_.out (by kernel_rfl)) (h := ?_)
                  refine pp_ (i := 13) (N := some 96) #[true, true, true, true, true, true, true, true, true, true, true, true, true, true, false, false, false, false, false, false, false, false] rfl rfl (any_of HT_.out (by kernel_rfl)) (h := ?_)
                  refine take_ (i := 14) (N := some 97) (v := ?_) (a' := ?_) #[true, true, true, true, true, true, true, true, true, true, true, true, true, true, true, false, false, false, false, false, false, false] rfl rfl (take_ofW HT_.out HW_.out (by kernel_rfl)) (fun _ _ _ h => h) (Or.inl ⟨by rfl, ?_⟩) hHeld ?_ ?_
                  rotate_left
                  ·rintro w' ⟨s0, s1, s2, s3, s4, s5, s6, s7, s8, s9, s10, s11, s12, s13, s14, s15, s16⟩
                   go_simp
                   with_reducible rfl
                  rotate_left
                  ·simp only [Act.put, List.setIfInBounds_toArray, List.set_cons_zero, List.set_cons_succ, i64_w, i32_w]
                   rfl
                  refine one_ (i := 15) (N := some 98) #[true, true, true, true, true, true, true, true, true, true, true, true, true, true, true, true, false, false, false, false, false, false] rfl rfl (one_of HT_.out (by kernel_rfl)) (by decide) (fun K hK => ?_)
                  refine Kd.R_lit_step k24 _ 24 ?hg (N := 98) ?hd (xs := ([(⟨(rd_T69 l0_0 x11_2).f4.f0, (rd_T69 l0_0 x11_2).f4.f1, (rd_T69 l0_0 x11_2).f4.f2⟩ : S24)] : List (S24))) (inner := [.int .i64 ((rd_T69 l0_0 x11_2).f4.f0), .string ((rd_T69 l0_0 x11_2).f4.f1), .string ((rd_T69 l0_0 x11_2).f4.f2)]) (ok := fun _ => True) (okp := fun _ => True) ?hr ?hp (fun _ hk => hk) trivial (Below.refl _ _) (Nat.le_refl _) (by simp) ?_; (case hd => rfl); (case hg => rfl); (case hr => first | (go_simp; done) | (go_simp; rfl)); (case hp => exact (Reps.c3 (show Kd.M k24 _ _ _ (⟨(rd_T69 l0_0 x11_2).f4.f0, (rd_T69 l0_0 x11_2).f4.f1, (rd_T69 l0_0 x11_2).f4.f2⟩ : S24) [.int .i64 ((rd_T69 l0_0 x11_2).f4.f0), .string ((rd_T69 l0_0 x11_2).f4.f1), .string ((rd_T69 l0_0 x11_2).f4.f2)] from (k24_mkM _ _ _ (⟨(rd_T69 l0_0 x11_2).f4.f0, (rd_T69 l0_0 x11_2).f4.f1, (rd_T69 l0_0 x11_2).f4.f2⟩ : S24) )) (Reps.none _ _)))
                  intro v372 w68 ho69 hb hg_ hnew_
                  have HS9_ := (hb.cell (World.block_lt_of_cell? _ _ (hHeld.2.2.2.2.2.2.2.2.2.1))).trans (hHeld.2.2.2.2.2.2.2.2.2.1)
                  clear hg_ hnew_
                  (first | rw [← Ny371.out] at ho69 | (simp only [Int.reduceToNat] at ho69; rw [← Ny371.out] at ho69))
                  have n0_ := Aside0.mk (Kd.R_below (rw_ HO_6.out) hb)
                  have n1_ := Aside0.mk (Kd.R_lower ho69 (below_size (hb_ HB)))
                  have n2_ := bb_ BK350 hb
                  have n3_ := bs_ HB hb
                  clear HO_6
                  clear BK350
                  clear HB
                  have HO_6 := n0_
                  have HO373 := n1_
                  have BK350 := n2_
                  have HB := n3_
                  clear n0_ n1_ n2_ n3_
                  clear hb ho69
                  obtain ⟨Ao70, co70, eo70⟩ := Kd.R_slice HO373.out
                  (first | subst eo70 | (injection eo70 with f1_ f2_ f3_; have f4_ := f1_.symm; have f5_ := f3_.symm; clear f1_ f2_ f3_; subst f4_; subst f5_))
                  refine hK.out _ _ ⟨(blk_cell BK350.out 0).trans rfl, (blk_cell BK350.out 1).trans rfl, ((HB.out.cell (World.block_lt_of_cell? w _ hw368_0)).trans hw368_0), ((HB.out.cell (World.block_lt_of_cell? w _ hw368_1)).trans hw368_1), ((HB.out.cell (World.block_lt_of_cell? w _ hw368_2)).trans hw368_2), ((HB.out.cell (World.block_lt_of_cell? w _ hw368_3)).trans hw368_3), ((HB.out.cell (World.block_lt_of_cell? w _ hw368_4)).trans hw368_4), ((HB.out.cell (World.block_lt_of_cell? w _ hw368_5)).trans hw368_5), ((HB.out.cell (World.block_lt_of_cell? w _ hw368_6)).trans hw368_6), HS9_, ((HB.out.cell (World.block_lt_of_cell? w _ hw370_0)).trans hw370_0), ((HB.out.cell (World.block_lt_of_cell? w _ hw370_1)).trans hw370_1), ((HB.out.cell (World.block_lt_of_cell? w _ hw370_2)).trans hw370_2), ((HB.out.cell (World.block_lt_of_cell? w _ hw370_3)).trans hw370_3), ((HB.out.cell (World.block_lt_of_cell? w _ hw370_4)).trans hw370_4), ((HB.out.cell (World.block_lt_of_cell? w _ hw370_5)).trans hw370_5), ((HB.out.cell (World.block_lt_of_cell? w _ hw370_6)).trans hw370_6)⟩ (fun hHeld => ?_)
                  clear hK K
                  refine norm_ (a' := ?_) ?_ ?_
                  rotate_left
                  ·show Act.put _ (some 98) _ = _
                   simp only [Act.put, List.setIfInBounds_toArray, List.set_cons_zero, List.set_cons_succ, i64_w, i32_w]
                   rfl
                  refine one_ (i := 16) (N := some 99) #[true, true, true, true, true, true, true, true, true, true, true, true, true, true, true, true, true, false, false, false, false, false] rfl rfl (one_of HT_.out (by kernel_rfl)) (by decide) (fun K hK => ?_)
                  refine goes_ Try.func22 (by kernel_rfl) rfl #[.string (rdOf ByteArray.empty x6_2 ((rd_T69 l0_0 x11_2).f0)), .slice Ao70 y371.length co70] (by rfl) rfl rfl (by (try simp only [List.map_toArray, List.map_cons, List.map_nil]); first | done | rfl | (simp only [List.length_drop, List.length_take]; rfl)) ?_
                  with_reducible refine (calamusref08_Do.calls k2 (rdOf ByteArray.empty x6_2 ((rd_T69 l0_0 x11_2).f0)) _ _ y371 t374 t375 _ ?side1 ?side2 A61.out).mono ?_
                  (case side1 => repeat (first | exact (Kd.R_reads' HO373.out).2.2 | (with_reducible refine Kd.C_alloc ?_ _) | (with_reducible refine Kd.C_drewN ?_ _) | (with_reducible refine Kd.C_drew ?_)))
                  (case side2 => exact (Kd.R_reads' HO373.out).2.1)
                  rintro e w71 ⟨rfl, hb⟩
                  have HS9_ := (hb.cell (World.block_lt_of_cell? _ _ (hHeld.2.2.2.2.2.2.2.2.2.1))).trans (hHeld.2.2.2.2.2.2.2.2.2.1)
                  refine ⟨_, rfl, ?_⟩
                  have n0_ := Aside0.mk (Kd.R_below (rw_ HO_6.out) hb)
                  have n1_ := Aside0.mk (Kd.R_below (rw_ HO373.out) hb)
                  have n2_ := bb_ BK350 hb
                  have n3_ := bs_ HB hb
                  clear HO_6
                  clear HO373
                  clear BK350
                  clear HB
                  have HO_6 := n0_
                  have HO373 := n1_
                  have BK350 := n2_
                  have HB := n3_
                  clear n0_ n1_ n2_ n3_
                  (try clear hb)
                  (try clear hb2)
                  (try clear hk)
                  (try clear hi)
                  refine hK.out _ _ ⟨(blk_cell BK350.out 0).trans rfl, (blk_cell BK350.out 1).trans rfl, ((HB.out.cell (World.block_lt_of_cell? w _ hw368_0)).trans hw368_0), ((HB.out.cell (World.block_lt_of_cell? w _ hw368_1)).trans hw368_1), ((HB.out.cell (World.block_lt_of_cell? w _ hw368_2)).trans hw368_2), ((HB.out.cell (World.block_lt_of_cell? w _ hw368_3)).trans hw368_3), ((HB.out.cell (World.block_lt_of_cell? w _ hw368_4)).trans hw368_4), ((HB.out.cell (World.block_lt_of_cell? w _ hw368_5)).trans hw368_5), ((HB.out.cell (World.block_lt_of_cell? w _ hw368_6)).trans hw368_6), HS9_, ((HB.out.cell (World.block_lt_of_cell? w _ hw370_0)).trans hw370_0), ((HB.out.cell (World.block_lt_of_cell? w _ hw370_1)).trans hw370_1), ((HB.out.cell (World.block_lt_of_cell? w _ hw370_2)).trans hw370_2), ((HB.out.cell (World.block_lt_of_cell? w _ hw370_3)).trans hw370_3), ((HB.out.cell (World.block_lt_of_cell? w _ hw370_4)).trans hw370_4), ((HB.out.cell (World.block_lt_of_cell? w _ hw370_5)).trans hw370_5), ((HB.out.cell (World.block_lt_of_cell? w _ hw370_6)).trans hw370_6)⟩ (fun hHeld => ?_)
                  clear hK K
                  refine norm_ (a' := ?_) ?_ ?_
                  rotate_left
                  ·show Act.put _ (some 99) _ = _
                   simp only [Act.put, List.setIfInBounds_toArray, List.set_cons_zero, List.set_cons_succ, i64_w, i32_w]
                   rfl
                  refine pp_ (i := 17) (N := some 82) #[true, true, true, true, true, true, true, true, true, true, true, true, true, true, true, true, true, true, false, false, false, false] rfl rfl (any_of HT_.out (by kernel_rfl)) (h := ?_)
                  refine pp_ (i := 18) (N := some 100) #[true, true, true, true, true, true, true, true, true, true, true, true, true, true, true, true, true, true, true, false, false, false] rfl rfl (any_of HT_.out (by kernel_rfl)) (h := ?_)
                  refine pp_ (i := 19) (N := some 101) #[true, true, true, true, true, true, true, true, true, true, true, true, true, true, true, true, true, true, true, true, false, false] rfl rfl (any_of HT_.out (by kernel_rfl)) (h := ?_)
                  refine pp_ (i := 20) (N := some 12) #[true, true, true, true, true, true, true, true, true, true, true, true, true, true, true, true, true, true, true, true, true, false] rfl rfl (any_of HT_.out (by kernel_rfl)) (h := ?_)
                  refine pp_ (i := 21) (N := some 13) #[true, true, true, true, true, true, true, true, true, true, true, true, true, true, true, true, true, true, true, true, true, true] rfl rfl (any_of HT_.out (by kernel_rfl)) (h := ?_)
                  refine done_ (done_of HT_.out (by kernel_rfl)) ?_
                  have p64 : 0 ≤ (x11_2 : Int) := of_decide_eq_true as_
                  have q64 : (x11_2 : Int) < ((x6_2.length : Int) : Int) := of_decide_eq_true as_
                  obtain ⟨hx64_0, hf64_0⟩ := Kd.R_celln (⟨#[]⟩ : ByteArray) HO_6.out (x11_2 : Int) p64 q64
                  replace p64 := eq_true p64
                  replace q64 := eq_true q64
                  obtain ⟨hy72_, hz72_⟩ := Kd.R_celln (⟨#[]⟩ : ByteArray) HO_6.out (x11_2 : Int) (of_decide_eq_true as_) (of_decide_eq_true as_)
                  have HP72 := Kd.R_putg HO_6.out (x11_2 : Int) t374
                  try go_wp2_with (first | ((with_reducible refine gate_store (t := 9) (p := 108) rfl ?_); refine store_event (t := 9) (p := 108) (v := ?vo_w73) (w1 := (w71.setCell ⟨go9, (x11_2 : Int).toNat, none⟩ (.string t374))) ?hg ?ho ?hn ?hr ?_; (case ho => rfl); (case hg => rfl); (case hn => rfl); (case hr => first | (go_simp; done) | (go_simp; rfl)); intro w73 hw; have hg : w71.grownBy w73 (some go9) := (by rw [hw]; exact HP72.2); have hp_ : Kd.R Kd.string 9 w73 w.heap.size (fun _ => True) (.slice (some ⟨go9, 0, none⟩) x6_2.length co9) y376 := (by rw [hw, Ny376.out]; exact HP72.1); clear HP72; replace BK350 := Aside0.mk (blk_grown (g := gb350) (o := .cells #[.slice (some ad368) l0_0.length c0_0, .int .i64 a0_1] 46 (0, 0)) (bw_ BK350.out) hg (Kd.R_ne HO_6.out BK350.out (by decide))); replace HO373 := Aside0.mk (Kd.R_over' (v := (.slice (some ⟨go9, 0, none⟩) x6_2.length co9)) (rw_ HO373.out) (Kd.R_typed HO_6.out) (by decide) hg); replace HB := Aside0.mk ((by rw [hw]; exact below_set (HB.out) GB9.out : Below w.heap.size w w73)); replace HO_6 := Aside0.mk (hp_); clear hg hw hp_))
                  (try simp only [← hl6_2])
                  go_roundg k2
                  case measure => have := HK1.out; have := HK2.out; omega
                  case rel => exact ⟨(y376), (wrap64 (x11_2 + 1)), es_, H', ⟨by have := HK1.out; have := HK2.out; omega⟩, ⟨by (try simp only [hl6_1]); (try simp only [hl6_2]); (with_reducible repeat (first | apply Kd.R_alloc | apply Kd.R_drewN | apply Kd.R_drew)); exact HO_6.out⟩, ⟨by (try simp only [hl6_1]); (try simp only [hl6_2]); (with_reducible repeat (first | refine blk_drewN ?_ _ | refine blk_drew ?_ | refine blk_alloc ?_ _)); exact BK350.out⟩, ⟨hb_ HB⟩⟩
                 ·rw [if_neg c63] at H
                  exact absurd H (by simp)
                ·rw [if_neg c62] at H
                 have c62b0 : (t375 == 0) = false := beq_eq_false_iff_ne.mpr c62
                 have c62b1 : (t375 != 0) = true := bne_iff_ne.mpr c62
                 simp only [Option.some.injEq, Prod.mk.injEq] at H
                 obtain ⟨rfl, rfl⟩ := H
                 obtain ⟨hcz74_0, hcz74_1, hfz74_0, hfz74_1⟩ := bc2_ BK350
                 try go_wp2_with (first | ((with_reducible refine gate_callee (f := 89) rfl ?_); refine ge_ (some 81) rfl rfl Try.func89 (by kernel_rfl) rfl #[.agg #[.slice A0_0 l0_0.length c0_0, .int .i64 a0_1], .int .i64 x11_2, .int .i64 a0_1] rfl (h := ?_); (with_reducible refine (calamusref11_on.calls k2 _ _ l0_0 a0_1 x11_2 a0_1 false _ ?side1 ?side2 A54.out).mono ?_); (case side1 => exact cw_ (Kd.C_below HR0_0.out HB.out)); (case side2 => exact HC0_0.out); rintro e w75 ⟨rfl, hb⟩; refine ⟨_, rfl, ?_⟩; replace HO_6 := Aside0.mk (Kd.R_below (rw_ HO_6.out) hb); replace BK350 := bb_ BK350 hb; replace HB := bs_ HB hb; (try clear hb); (try clear hb2); (try clear hk); (try clear hi)))
                 have n0_ := Aside0.mk (Kd.R_drew HO_6.out)
                 have n1_ := Aside0.mk (blk_drew BK350.out)
                 have n2_ := Aside0.mk (below_drew1 HB.out)
                 clear HO_6
                 clear BK350
                 clear HB
                 have HO_6 := n0_
                 have BK350 := n1_
                 have HB := n2_
                 clear n0_ n1_ n2_
                 have p368 : 0 ≤ (x11_2 : Int) := of_decide_eq_true as_
                 have q368 : x11_2 < (l0_0.length : Int) := of_decide_eq_true as_
                 obtain ⟨ad368, e368, hx368_0, hx368_1, hx368_2, hx368_3, hx368_4, hx368_5, hx368_6⟩ := at_T69 HR0_0.out x11_2 p368 q368
                 have hw368_6 := hx368_6
                 have hw368_5 := hx368_5
                 have hw368_4 := hx368_4
                 have hw368_3 := hx368_3
                 have hw368_2 := hx368_2
                 have hw368_1 := hx368_1
                 have hw368_0 := hx368_0
                 cases e368
                 replace hx368_0 := cb_ HB hx368_0
                 replace hx368_1 := cb_ HB hx368_1
                 replace hx368_2 := cb_ HB hx368_2
                 replace hx368_3 := cb_ HB hx368_3
                 replace hx368_4 := cb_ HB hx368_4
                 replace hx368_5 := cb_ HB hx368_5
                 replace hx368_6 := cb_ HB hx368_6
                 replace p368 := eq_true p368
                 replace q368 := eq_true q368
                 have p369 : 0 ≤ (((rd_T69 l0_0 x11_2).f0) : Int) := of_decide_eq_true as_
                 have q369 : ((rd_T69 l0_0 x11_2).f0) < (x6_2.length : Int) := of_decide_eq_true as_
                 obtain ⟨ad369, e369, hx369_0⟩ := Kd.at_string (Kd.R_reads' HO_6.out).2.2 ((rd_T69 l0_0 x11_2).f0) p369 q369
                 obtain rfl : (⟨go9, 0, none⟩ : Addr) = ad369 := (by injection e369)
                 (first | simp only [add_plain] at hx369_0 | simp only [add_at] at hx369_0 | simp only [Addr.add, Nat.zero_add] at hx369_0 | skip)
                 replace p369 := eq_true p369
                 replace q369 := eq_true q369
                 have p370 : 0 ≤ (x11_2 : Int) := of_decide_eq_true as_
                 have q370 : x11_2 < (l0_0.length : Int) := of_decide_eq_true as_
                 obtain ⟨ad370, e370, hx370_0, hx370_1, hx370_2, hx370_3, hx370_4, hx370_5, hx370_6⟩ := at_T69 HR0_0.out x11_2 p370 q370
                 have hw370_6 := hx370_6
                 have hw370_5 := hx370_5
                 have hw370_4 := hx370_4
                 have hw370_3 := hx370_3
                 have hw370_2 := hx370_2
                 have hw370_1 := hx370_1
                 have hw370_0 := hx370_0
                 obtain rfl : ad368 = ad370 := (by injection e370)
                 replace hx370_0 := cb_ HB hx370_0
                 replace hx370_1 := cb_ HB hx370_1
                 replace hx370_2 := cb_ HB hx370_2
                 replace hx370_3 := cb_ HB hx370_3
                 replace hx370_4 := cb_ HB hx370_4
                 replace hx370_5 := cb_ HB hx370_5
                 replace hx370_6 := cb_ HB hx370_6
                 replace p370 := eq_true p370
                 replace q370 := eq_true q370
                 refine start_ (n := 22) (S := fun w' => w'.cell? ⟨gb350, 0, none⟩ = some (.slice (some ad368) l0_0.length c0_0) ∧ w'.cell? ⟨gb350, 1, none⟩ = some (.int .i64 a0_1) ∧ w'.cell? (ad368.add ((x11_2).toNat * 7)) = some (.int .i64 ((rd_T69 l0_0 x11_2).f0)) ∧ w'.cell? ⟨(ad368.add ((x11_2).toNat * 7)).block, (ad368.add ((x11_2).toNat * 7)).off + 1, none⟩ = some (.int .i64 ((rd_T69 l0_0 x11_2).f1)) ∧ w'.cell? ⟨(ad368.add ((x11_2).toNat * 7)).block, (ad368.add ((x11_2).toNat * 7)).off + 2, none⟩ = some (.int .i64 ((rd_T69 l0_0 x11_2).f2)) ∧ w'.cell? ⟨(ad368.add ((x11_2).toNat * 7)).block, (ad368.add ((x11_2).toNat * 7)).off + 3, none⟩ = some (.int .i64 ((rd_T69 l0_0 x11_2).f3)) ∧ w'.cell? ⟨(ad368.add ((x11_2).toNat * 7)).block, (ad368.add ((x11_2).toNat * 7)).off + 4, none⟩ = some (.int .i64 ((rd_T69 l0_0 x11_2).f4.f0)) ∧ w'.cell? ⟨(ad368.add ((x11_2).toNat * 7)).block, (ad368.add ((x11_2).toNat * 7)).off + 5, none⟩ = some (.string ((rd_T69 l0_0 x11_2).f4.f1)) ∧ w'.cell? ⟨(ad368.add ((x11_2).toNat * 7)).block, (ad368.add ((x11_2).toNat * 7)).off + 6, none⟩ = some (.string ((rd_T69 l0_0 x11_2).f4.f2)) ∧ w'.cell? ⟨go9, (((rd_T69 l0_0 x11_2).f0)).toNat, none⟩ = some (.string (rdOf ByteArray.empty x6_2 ((rd_T69 l0_0 x11_2).f0))) ∧ w'.cell? (ad368.add ((x11_2).toNat * 7)) = some (.int .i64 ((rd_T69 l0_0 x11_2).f0)) ∧ w'.cell? ⟨(ad368.add ((x11_2).toNat * 7)).block, (ad368.add ((x11_2).toNat * 7)).off + 1, none⟩ = some (.int .i64 ((rd_T69 l0_0 x11_2).f1)) ∧ w'.cell? ⟨(ad368.add ((x11_2).toNat * 7)).block, (ad368.add ((x11_2).toNat * 7)).off + 2, none⟩ = some (.int .i64 ((rd_T69 l0_0 x11_2).f2)) ∧ w'.cell? ⟨(ad368.add ((x11_2).toNat * 7)).block, (ad368.add ((x11_2).toNat * 7)).off + 3, none⟩ = some (.int .i64 ((rd_T69 l0_0 x11_2).f3)) ∧ w'.cell? ⟨(ad368.add ((x11_2).toNat * 7)).block, (ad368.add ((x11_2).toNat * 7)).off + 4, none⟩ = some (.int .i64 ((rd_T69 l0_0 x11_2).f4.f0)) ∧ w'.cell? ⟨(ad368.add ((x11_2).toNat * 7)).block, (ad368.add ((x11_2).toNat * 7)).off + 5, none⟩ = some (.string ((rd_T69 l0_0 x11_2).f4.f1)) ∧ w'.cell? ⟨(ad368.add ((x11_2).toNat * 7)).block, (ad368.add ((x11_2).toNat * 7)).off + 6, none⟩ = some (.string ((rd_T69 l0_0 x11_2).f4.f2))) (ds := []) #[false, false, false, false, false, false, false, false, false, false, false, false, false, false, false, false, false, false, false, false, false, false] (by kernel_rfl) rfl rfl ⟨(blk_cell BK350.out 0).trans rfl, (blk_cell BK350.out 1).trans rfl, ((HB.out.cell (World.block_lt_of_cell? w _ hw368_0)).trans hw368_0), ((HB.out.cell (World.block_lt_of_cell? w _ hw368_1)).trans hw368_1), ((HB.out.cell (World.block_lt_of_cell? w _ hw368_2)).trans hw368_2), ((HB.out.cell (World.block_lt_of_cell? w _ hw368_3)).trans hw368_3), ((HB.out.cell (World.block_lt_of_cell? w _ hw368_4)).trans hw368_4), ((HB.out.cell (World.block_lt_of_cell? w _ hw368_5)).trans hw368_5), ((HB.out.cell (World.block_lt_of_cell? w _ hw368_6)).trans hw368_6), hx369_0, ((HB.out.cell (World.block_lt_of_cell? w _ hw370_0)).trans hw370_0), ((HB.out.cell (World.block_lt_of_cell? w _ hw370_1)).trans hw370_1), ((HB.out.cell (World.block_lt_of_cell? w _ hw370_2)).trans hw370_2), ((HB.out.cell (World.block_lt_of_cell? w _ hw370_3)).trans hw370_3), ((HB.out.cell (World.block_lt_of_cell? w _ hw370_4)).trans hw370_4), ((HB.out.cell (World.block_lt_of_cell? w _ hw370_5)).trans hw370_5), ((HB.out.cell (World.block_lt_of_cell? w _ hw370_6)).trans hw370_6)⟩ (fun hHeld => ?_); refine with_tabW calamusref11_Texts.tab17 calamusref11_Texts.bits17 (fun HT_ HW_ => ?_)
                 generalize w75.drew = w76 at HO_6 BK350 HB hx368_0 hx368_1 hx368_2 hx368_3 hx368_4 hx368_5 hx368_6 hx369_0 hx370_0 hx370_1 hx370_2 hx370_3 hx370_4 hx370_5 hx370_6 hHeld ⊢
                 refine pp_ (i := 0) (N := some 83) #[true, false, false, false, false, false, false, false, false, false, false, false, false, false, false, false, false, false, false, false, false, false] rfl rfl (any_of HT_.out (by kernel_rfl)) (h := ?_)
                 refine pp_ (i := 1) (N := some 84) #[true, true, false, false, false, false, false, false, false, false, false, false, false, false, false, false, false, false, false, false, false, false] rfl rfl (any_of HT_.out (by kernel_rfl)) (h := ?_)
                 refine pp_ (i := 3) (N := some 86) #[true, true, false, true, false, false, false, false, false, false, false, false, false, false, false, false, false, false, false, false, false, false] rfl rfl (any_of HT_.out (by kernel_rfl)) (h := ?_)
                 refine pp_ (i := 9) (N := some 92) #[true, true, false, true, false, false, false, false, false, true, false, false, false, false, false, false, false, false, false, false, false, false] rfl rfl (any_of HT_.out (by kernel_rfl)) (h := ?_)
                 refine pp_ (i := 11) (N := some 94) #[true, true, false, true, false, false, false, false, false, true, false, true, false, false, false, false, false, false, false, false, false, false] rfl rfl (any_of HT_.out (by kernel_rfl)) (h := ?_)
                 refine take_ (i := 2) (N := some 85) (v := ?_) (a' := ?_) #[true, true, true, true, false, false, false, false, false, true, false, true, false, false, false, false, false, false, false, false, false, false] rfl rfl (take_ofW HT_.out HW_.out (by kernel_rfl)) (fun _ _ _ h => h) (Or.inl ⟨by rfl, ?_⟩) hHeld ?_ ?_
                 rotate_left
                 ·rintro w' ⟨s0, s1, s2, s3, s4, s5, s6, s7, s8, s9, s10, s11, s12, s13, s14, s15, s16⟩
                  go_simp
                  with_reducible rfl
                 rotate_left
                 ·simp only [Act.put, List.setIfInBounds_toArray, List.set_cons_zero, List.set_cons_succ, i64_w, i32_w]
                  rfl
                 refine pp_ (i := 4) (N := some 87) #[true, true, true, true, true, false, false, false, false, true, false, true, false, false, false, false, false, false, false, false, false, false] rfl rfl (any_of HT_.out (by kernel_rfl)) (h := ?_)
                 refine pp_ (i := 5) (N := some 88) #[true, true, true, true, true, true, false, false, false, true, false, true, false, false, false, false, false, false, false, false, false, false] rfl rfl (any_of HT_.out (by kernel_rfl)) (h := ?_)
                 refine take_ (i := 6) (N := some 89) (v := ?_) (a' := ?_) #[true, true, true, true, true, true, true, false, false, true, false, true, false, false, false, false, false, false, false, false, false, false] rfl rfl (take_ofW HT_.out HW_.out (by kernel_rfl)) (fun _ _ _ h => h) (Or.inl ⟨by rfl, ?_⟩) hHeld ?_ ?_
                 rotate_left
                 ·rintro w' ⟨s0, s1, s2, s3, s4, s5, s6, s7, s8, s9, s10, s11, s12, s13, s14, s15, s16⟩
                  go_simp
                  with_reducible rfl
                 rotate_left
                 ·simp only [Act.put, List.setIfInBounds_toArray, List.set_cons_zero, List.set_cons_succ, i64_w, i32_w]
                  rfl
                 refine pp_ (i := 7) (N := some 90) #[true, true, true, true, true, true, true, true, false, true, false, true, false, false, false, false, false, false, false, false, false, false] rfl rfl (any_of HT_.out (by kernel_rfl)) (h := ?_)
                 refine take_ (i := 8) (N := some 91) (v := ?_) (a' := ?_) #[true, true, true, true, true, true, true, true, true, true, false, true, false, false, false, false, false, false, false, false, false, false] rfl rfl (take_ofW HT_.out HW_.out (by kernel_rfl)) (fun _ _ _ h => h) (Or.inl ⟨by rfl, ?_⟩) hHeld ?_ ?_
                 rotate_left
                 ·rintro w' ⟨s0, s1, s2, s3, s4, s5, s6, s7, s8, s9, s10, s11, s12, s13, s14, s15, s16⟩
                  go_simp
                  with_reducible rfl
                 rotate_left
                 ·simp only [Act.put, List.setIfInBounds_toArray, List.set_cons_zero, List.set_cons_succ, i64_w, i32_w]
                  rfl
                 refine take_ (i := 10) (N := some 93) (v := ?_) (a' := ?_) #[true, true, true, true, true, true, true, true, true, true, true, true, false, false, false, false, false, false, false, false, false, false] rfl rfl (take_ofW HT_.out HW_.out (by kernel_rfl)) (fun _ _ _ h => h) (Or.inl ⟨by rfl, ?_⟩) hHeld ?_ ?_
                 rotate_left
                 ·rintro w' ⟨s0, s1, s2, s3, s4, s5, s6, s7, s8, s9, s10, s11, s12, s13, s14, s15, s16⟩
                  go_simp
                  with_reducible rfl
                 rotate_left
                 ·simp only [Act.put, List.setIfInBounds_toArray, List.set_cons_zero, List.set_cons_succ, i64_w, i32_w]
                  rfl
                 refine pp_ (i := 12) (N := some 95) #[true, true, true, true, true, true, true, true, true, true, true, true, true, false, false, false, false, false, false, false, false, false] rfl rfl (any_of HT_.out (by kernel_rfl)) (h := ?_)
                 refine pp_ (i := 13) (N := some 96) #[true, true, true, true, true, true, true, true, true, true, true, true, true, true, false, false, false, false, false, false, false, false] rfl rfl (any_of HT_.out (by kernel_rfl)) (h := ?_)
                 refine take_ (i := 14) (N := some 97) (v := ?_) (a' := ?_) #[true, true, true, true, true, true, true, true, true, true, true, true, true, true, true, false, false, false, false, false, false, false] rfl rfl (take_ofW HT_.out HW_.out (by kernel_rfl)) (fun _ _ _ h => h) (Or.inl ⟨by rfl, ?_⟩) hHeld ?_ ?_
                 rotate_left
                 ·rintro w' ⟨s0, s1, s2, s3, s4, s5, s6, s7, s8, s9, s10, s11, s12, s13, s14, s15, s16⟩
                  go_simp
                  with_reducible rfl
                 rotate_left
                 ·simp only [Act.put, List.setIfInBounds_toArray, List.set_cons_zero, List.set_cons_succ, i64_w, i32_w]
                  rfl
                 refine one_ (i := 15) (N := some 98) #[true, true, true, true, true, true, true, true, true, true, true, true, true, true, true, true, false, false, false, false, false, false] rfl rfl (one_of HT_.out (by kernel_rfl)) (by decide) (fun K hK => ?_)
                 refine Kd.R_lit_step k24 _ 24 ?hg (N := 98) ?hd (xs := ([(⟨(rd_T69 l0_0 x11_2).f4.f0, (rd_T69 l0_0 x11_2).f4.f1, (rd_T69 l0_0 x11_2).f4.f2⟩ : S24)] : List (S24))) (inner := [.int .i64 ((rd_T69 l0_0 x11_2).f4.f0), .string ((rd_T69 l0_0 x11_2).f4.f1), .string ((rd_T69 l0_0 x11_2).f4.f2)]) (ok := fun _ => True) (okp := fun _ => True) ?hr ?hp (fun _ hk => hk) trivial (Below.refl _ _) (Nat.le_refl _) (by simp) ?_; (case hd => rfl); (case hg => rfl); (case hr => first | (go_simp; done) | (go_simp; rfl)); (case hp => exact (Reps.c3 (show Kd.M k24 _ _ _ (⟨(rd_T69 l0_0 x11_2).f4.f0, (rd_T69 l0_0 x11_2).f4.f1, (rd_T69 l0_0 x11_2).f4.f2⟩ : S24) [.int .i64 ((rd_T69 l0_0 x11_2).f4.f0), .string ((rd_T69 l0_0 x11_2).f4.f1), .string ((rd_T69 l0_0 x11_2).f4.f2)] from (k24_mkM _ _ _ (⟨(rd_T69 l0_0 x11_2).f4.f0, (rd_T69 l0_0 x11_2).f4.f1, (rd_T69 l0_0 x11_2).f4.f2⟩ : S24) )) (Reps.none _ _)))
                 intro v372 w77 ho78 hb hg_ hnew_
                 have HS9_ := (hb.cell (World.block_lt_of_cell? _ _ (hHeld.2.2.2.2.2.2.2.2.2.1))).trans (hHeld.2.2.2.2.2.2.2.2.2.1)
                 clear hg_ hnew_
                 (first | rw [← Ny371.out] at ho78 | (simp only [Int.reduceToNat] at ho78; rw [← Ny371.out] at ho78))
                 have n0_ := Aside0.mk (Kd.R_below (rw_ HO_6.out) hb)
                 have n1_ := Aside0.mk (Kd.R_lower ho78 (below_size (hb_ HB)))
                 have n2_ := bb_ BK350 hb
                 have n3_ := bs_ HB hb
                 clear HO_6
                 clear BK350
                 clear HB
                 have HO_6 := n0_
                 have HO373 := n1_
                 have BK350 := n2_
                 have HB := n3_
                 clear n0_ n1_ n2_ n3_
                 clear hb ho78
                 obtain ⟨Ao79, co79, eo79⟩ := Kd.R_slice HO373.out
                 (first | subst eo79 | (injection eo79 with f1_ f2_ f3_; have f4_ := f1_.symm; have f5_ := f3_.symm; clear f1_ f2_ f3_; subst f4_; subst f5_))
                 refine hK.out _ _ ⟨(blk_cell BK350.out 0).trans rfl, (blk_cell BK350.out 1).trans rfl, ((HB.out.cell (World.block_lt_of_cell? w _ hw368_0)).trans hw368_0), ((HB.out.cell (World.block_lt_of_cell? w _ hw368_1)).trans hw368_1), ((HB.out.cell (World.block_lt_of_cell? w _ hw368_2)).trans hw368_2), ((HB.out.cell (World.block_lt_of_cell? w _ hw368_3)).trans hw368_3), ((HB.out.cell (World.block_lt_of_cell? w _ hw368_4)).trans hw368_4), ((HB.out.cell (World.block_lt_of_cell? w _ hw368_5)).trans hw368_5), ((HB.out.cell (World.block_lt_of_cell? w _ hw368_6)).trans hw368_6), HS9_, ((HB.out.cell (World.block_lt_of_cell? w _ hw370_0)).trans hw370_0), ((HB.out.cell (World.block_lt_of_cell? w _ hw370_1)).trans hw370_1), ((HB.out.cell (World.block_lt_of_cell? w _ hw370_2)).trans hw370_2), ((HB.out.cell (World.block_lt_of_cell? w _ hw370_3)).trans hw370_3), ((HB.out.cell (World.block_lt_of_cell? w _ hw370_4)).trans hw370_4), ((HB.out.cell (World.block_lt_of_cell? w _ hw370_5)).trans hw370_5), ((HB.out.cell (World.block_lt_of_cell? w _ hw370_6)).trans hw370_6)⟩ (fun hHeld => ?_)
                 clear hK K
                 refine norm_ (a' := ?_) ?_ ?_
                 rotate_left
                 ·show Act.put _ (some 98) _ = _
                  simp only [Act.put, List.setIfInBounds_toArray, List.set_cons_zero, List.set_cons_succ, i64_w, i32_w]
                  rfl
                 refine one_ (i := 16) (N := some 99) #[true, true, true, true, true, true, true, true, true, true, true, true, true, true, true, true, true, false, false, false, false, false] rfl rfl (one_of HT_.out (by kernel_rfl)) (by decide) (fun K hK => ?_)
                 refine goes_ Try.func22 (by kernel_rfl) rfl #[.string (rdOf ByteArray.empty x6_2 ((rd_T69 l0_0 x11_2).f0)), .slice Ao79 y371.length co79] (by rfl) rfl rfl (by (try simp only [List.map_toArray, List.map_cons, List.map_nil]); first | done | rfl | (simp only [List.length_drop, List.length_take]; rfl)) ?_
                 with_reducible refine (calamusref08_Do.calls k2 (rdOf ByteArray.empty x6_2 ((rd_T69 l0_0 x11_2).f0)) _ _ y371 t374 t375 _ ?side1 ?side2 A61.out).mono ?_
                 (case side1 => repeat (first | exact (Kd.R_reads' HO373.out).2.2 | (with_reducible refine Kd.C_alloc ?_ _) | (with_reducible refine Kd.C_drewN ?_ _) | (with_reducible refine Kd.C_drew ?_)))
                 (case side2 => exact (Kd.R_reads' HO373.out).2.1)
                 rintro e w80 ⟨rfl, hb⟩
                 have HS9_ := (hb.cell (World.block_lt_of_cell? _ _ (hHeld.2.2.2.2.2.2.2.2.2.1))).trans (hHeld.2.2.2.2.2.2.2.2.2.1)
                 refine ⟨_, rfl, ?_⟩
                 have n0_ := Aside0.mk (Kd.R_below (rw_ HO_6.out) hb)
                 have n1_ := Aside0.mk (Kd.R_below (rw_ HO373.out) hb)
                 have n2_ := bb_ BK350 hb
                 have n3_ := bs_ HB hb
                 clear HO_6
                 clear HO373
                 clear BK350
                 clear HB
                 have HO_6 := n0_
                 have HO373 := n1_
                 have BK350 := n2_
                 have HB := n3_
                 clear n0_ n1_ n2_ n3_
                 (try clear hb)
                 (try clear hb2)
                 (try clear hk)
                 (try clear hi)
                 refine hK.out _ _ ⟨(blk_cell BK350.out 0).trans rfl, (blk_cell BK350.out 1).trans rfl, ((HB.out.cell (World.block_lt_of_cell? w _ hw368_0)).trans hw368_0), ((HB.out.cell (World.block_lt_of_cell? w _ hw368_1)).trans hw368_1), ((HB.out.cell (World.block_lt_of_cell? w _ hw368_2)).trans hw368_2), ((HB.out.cell (World.block_lt_of_cell? w _ hw368_3)).trans hw368_3), ((HB.out.cell (World.block_lt_of_cell? w _ hw368_4)).trans hw368_4), ((HB.out.cell (World.block_lt_of_cell? w _ hw368_5)).trans hw368_5), ((HB.out.cell (World.block_lt_of_cell? w _ hw368_6)).trans hw368_6), HS9_, ((HB.out.cell (World.block_lt_of_cell? w _ hw370_0)).trans hw370_0), ((HB.out.cell (World.block_lt_of_cell? w _ hw370_1)).trans hw370_1), ((HB.out.cell (World.block_lt_of_cell? w _ hw370_2)).trans hw370_2), ((HB.out.cell (World.block_lt_of_cell? w _ hw370_3)).trans hw370_3), ((HB.out.cell (World.block_lt_of_cell? w _ hw370_4)).trans hw370_4), ((HB.out.cell (World.block_lt_of_cell? w _ hw370_5)).trans hw370_5), ((HB.out.cell (World.block_lt_of_cell? w _ hw370_6)).trans hw370_6)⟩ (fun hHeld => ?_)
                 clear hK K
                 refine norm_ (a' := ?_) ?_ ?_
                 rotate_left
                 ·show Act.put _ (some 99) _ = _
                  simp only [Act.put, List.setIfInBounds_toArray, List.set_cons_zero, List.set_cons_succ, i64_w, i32_w]
                  rfl
                 refine pp_ (i := 17) (N := some 82) #[true, true, true, true, true, true, true, true, true, true, true, true, true, true, true, true, true, true, false, false, false, false] rfl rfl (any_of HT_.out (by kernel_rfl)) (h := ?_)
                 refine pp_ (i := 18) (N := some 100) #[true, true, true, true, true, true, true, true, true, true, true, true, true, true, true, true, true, true, true, false, false, false] rfl rfl (any_of HT_.out (by kernel_rfl)) (h := ?_)
                 refine pp_ (i := 19) (N := some 101) #[true, true, true, true, true, true, true, true, true, true, true, true, true, true, true, true, true, true, true, true, false, false] rfl rfl (any_of HT_.out (by kernel_rfl)) (h := ?_)
                 refine pp_ (i := 20) (N := some 12) #[true, true, true, true, true, true, true, true, true, true, true, true, true, true, true, true, true, true, true, true, true, false] rfl rfl (any_of HT_.out (by kernel_rfl)) (h := ?_)
                 refine pp_ (i := 21) (N := some 13) #[true, true, true, true, true, true, true, true, true, true, true, true, true, true, true, true, true, true, true, true, true, true] rfl rfl (any_of HT_.out (by kernel_rfl)) (h := ?_)
                 refine done_ (done_of HT_.out (by kernel_rfl)) ?_
                 try go_wp2
                 go_ret2
                 exact ⟨_, er_, by first | exact Kd.R_nil _ _ _ _ _ | exact Kd.N_nil _ _ _ _ _ | exact Kd.V_nil _ _ _ _ _ | exact Kd.Q_nil _ _ _ _ _ | exact Kd.S_nil _ _ _ _ _, hb_ HB⟩
               ·rw [if_neg c60] at H
                exact absurd H (by simp)
              ·rw [if_neg c59] at H
               exact absurd H (by simp)
             ·rw [if_neg c58] at H
              exact absurd H (by simp)
           ·rw [if_neg c53] at H
            have c53b0 : decide (x11_2 < (l0_0.length : Int)) = false := decide_eq_false c53
            clear c53
            simp only [Option.some.injEq, Prod.mk.injEq] at H
            obtain ⟨rfl, rfl⟩ := H
            obtain ⟨hcz81_0, hcz81_1, hfz81_0, hfz81_1⟩ := bc2_ BK350
            go_wp2
            go_ret2
            exact ⟨_, er_, by (with_reducible repeat (first | apply Kd.R_alloc | apply Kd.R_drewN | apply Kd.R_drew)); exact HO_6.out, hb_ HB⟩
     ·rw [if_neg c8] at H
      exact absurd H (by simp)
    ·rw [if_neg c7] at H
     exact absurd H (by simp)
   ·rw [if_neg c6] at H
    exact absurd H (by simp)
  ·rw [if_neg c5] at H
   exact absurd H (by simp)
 ·replace c4 := Bool.eq_false_iff.mpr c4
  subst c4
  have H1 : (some (([] : List ByteArray), 1)) = some (r1, r2) := by rw [if_neg (show ¬ (false = true) by decide)] at H; exact H
  clear H
  have H := H1
  clear H1
  simp only [Option.some.injEq, Prod.mk.injEq] at H
  obtain ⟨rfl, rfl⟩ := H
  go_enter Try.func56, Try.ntmps56
  go_wp2_with (first | ((with_reducible refine gate_dst (N := 2) rfl ?_); refine be_ (N := 2) (cs := #[.slice A0_0 l0_0.length c0_0, .int .i64 a0_1]) (t := 46) (h := ?_); intro gb350 hg w82 hbox hb; have BK350 := Aside0.mk (hbox); have GW350 := gw_ HB hg; have GE350 := gw_ HB hg; replace HB := bs_ HB hb; clear hb hbox hg; obtain ⟨hcz83_0, hcz83_1, hfz83_0, hfz83_1⟩ := bc2_ BK350) | ((with_reducible refine gate_callee (f := 37) rfl ?_); refine ge_ (some 15) rfl rfl Try.func37 (by kernel_rfl) rfl #[.agg #[.slice A0_0 l0_0.length c0_0, .int .i64 a0_1]] rfl (h := ?_); (with_reducible refine (calamusref11_Right.calls k _ _ l0_0 a0_1 false _ ?side1 ?side2 A3.out).mono ?_); (case side1 => exact cw_ (Kd.C_below HR0_0.out HB.out)); (case side2 => exact HC0_0.out); rintro e w84 ⟨rfl, hb⟩; refine ⟨_, rfl, ?_⟩; replace BK350 := bb_ BK350 hb; replace HB := bs_ HB hb; (try clear hb); (try clear hb2); (try clear hk); (try clear hi)))
  go_ret2
  exact ⟨_, er_, by first | exact Kd.R_nil _ _ _ _ _ | exact Kd.N_nil _ _ _ _ _ | exact Kd.V_nil _ _ _ _ _ | exact Kd.Q_nil _ _ _ _ _ | exact Kd.S_nil _ _ _ _ _, hb_ HB⟩

end Go.Proofs.Ytkiokimpblimcaa.PTreeTexts
