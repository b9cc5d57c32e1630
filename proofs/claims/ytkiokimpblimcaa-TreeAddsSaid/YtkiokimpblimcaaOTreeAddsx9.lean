/- Of the law calamus/calamuslaw11.TreeAdds: each function as a plain Lean function, with a proof that the call comes to it; the row. By wip/tpl/own_print.py. Conditions: none but the row's own. -/
import Derived.Test.YtkiokimpblimcaaOTreeAddsx0
import Derived.Test.YtkiokimpblimcaaOTreeAddsx5
import Derived.Test.YtkiokimpblimcaaOTreeAddsx8
namespace Go.Proofs.Ytkiokimpblimcaa.PTreeAdds
open Go.RowKit Go.Proofs.YtkiokimpblimcaaW.PrintWords Go.Proofs.YtkiokimpblimcaaW.PrintLast Go.Proofs.YtkiokimpblimcaaW.PrintMore
attribute [local go_sem] max2_int min2_int max_two min_two max_three min_three max_four min_four   -- for this text's walks alone
set_option linter.unusedVariables false
set_option linter.unusedSimpArgs false

/-! ### calamusref11_with: function 81 -/
def calamusref11_with.l0 : Nat → List Int → Int → List (S69) → Int → Option ((List (S69)) × Int)
 | 0, _, _, _, _ => none
 | k + 1, x1, x2, x7, x8 => if x8 < (x1.length : Int) then (if 0 ≤ x8 then (if 0 ≤ (rd x1 x8) then (if (rd x1 x8) < (x7.length : Int) then (if 0 ≤ ((rd_T69 x7 (rd x1 x8)).f0) then (if ((rd_T69 x7 (rd x1 x8)).f0) < (x7.length : Int) then (calamusref11_with.l0 k x1 x2 (x7.set (((rd_T69 x7 (rd x1 x8)).f0) : Int).toNat (⟨(rd_T69 x7 ((rd_T69 x7 (rd x1 x8)).f0)).f0, rd x1 x8, (rd_T69 x7 ((rd_T69 x7 (rd x1 x8)).f0)).f2, (rd_T69 x7 ((rd_T69 x7 (rd x1 x8)).f0)).f3, (⟨(rd_T69 x7 ((rd_T69 x7 (rd x1 x8)).f0)).f4.f0, (rd_T69 x7 ((rd_T69 x7 (rd x1 x8)).f0)).f4.f1, (rd_T69 x7 ((rd_T69 x7 (rd x1 x8)).f0)).f4.f2⟩ : S24)⟩ : S69)) (wrap64 (x8 + 1))) else (none)) else (none)) else (none)) else (none)) else (none)) else (some (x7, x2))
def calamusref11_with.f (k : Nat) (l0_0 : List (S69)) (a0_1 : Int) (l1 : List Int) (a2 : Int) : Option ((List (S69)) × Int) := if ([] : List (S69)).length + l0_0.length < 1954687338268 then (calamusref11_with.l0 k l1 a2 (([] : List (S69)) ++ l0_0) 0) else (none)
theorem calamusref11_with.mono_l : ∀ k, (∀ y0 y1 y2 y3, LeO (calamusref11_with.l0 k y0 y1 y2 y3) (calamusref11_with.l0 (k + 1) y0 y1 y2 y3))
 | 0 => fun _ _ _ _ r h => by simp [calamusref11_with.l0] at h
 | k + 1 => by
  have ih0 := calamusref11_with.mono_l k
  ·intro y0 y1 y2 y3
   unfold calamusref11_with.l0
   repeat' first
   | (with_reducible exact ih0 _ _ _ _)
   | (with_reducible exact LeO.refl _)
   | (with_reducible exact LeO.none _)
   | (with_reducible refine LeO.ite ?_ ?_)
   | (with_reducible refine LeO.bind ?_ (fun _ => ?_))
   | exact ih0 _ _ _ _
   | exact LeO.none _
   | refine LeO.ite ?_ ?_
   | refine LeO.bind ?_ (fun _ => ?_)
theorem calamusref11_with.mono : ∀ a0 a1 a2 a3 k, LeO (calamusref11_with.f k a0 a1 a2 a3) (calamusref11_with.f (k + 1) a0 a1 a2 a3) := by
 intro a0 a1 a2 a3 k
 have ih0 := calamusref11_with.mono_l k
 unfold calamusref11_with.f
 repeat' first
   | (with_reducible exact ih0 _ _ _ _)
   | (with_reducible exact LeO.refl _)
   | (with_reducible exact LeO.none _)
   | (with_reducible refine LeO.ite ?_ ?_)
   | (with_reducible refine LeO.bind ?_ (fun _ => ?_))
   | exact ih0 _ _ _ _
   | exact LeO.none _
   | refine LeO.ite ?_ ?_
   | refine LeO.bind ?_ (fun _ => ?_)
def calamusref11_with.T6 : Bool × List (List Nat × List Nat) := (true, [([], []), ([], []), ([], []), ([], []), ([2, 3], [2, 3]), ([4], [4]), ([1, 5], [1, 5]), ([6], [6]), ([7], [7]), ([], []), ([], []), ([9, 10], [9, 10]), ([11], [11]), ([0, 8, 0, 1, 2, 3, 4, 5, 6, 7, 8, 9, 10, 11, 12], [0, 8]), ([13, 0, 1, 2, 3, 4, 5, 6, 7, 8, 9, 10, 11, 12], [13]), ([14, 12, 0, 1, 2, 3, 4, 5, 6, 7, 8, 9, 10, 11, 12], [12, 14])])
def calamusref11_with.B6 : List Nat := [0, 0, 0, 0, 12, 28, 62, 126, 254, 0, 0, 1536, 3584, 8191, 16383, 32767]
theorem calamusref11_with.tab6 : rtab .any (opsOf Try.f81 6) = calamusref11_with.T6 := by kernel_rfl
theorem calamusref11_with.bits6 : waitsOk calamusref11_with.T6.2 calamusref11_with.B6 = true := by kernel_rfl
set_option maxHeartbeats 8000000 in
set_option maxRecDepth 100000 in
theorem calamusref11_with.calls (k : Nat) (A0_0 : Option Addr) (c0_0 : Nat) (l0_0 : List (S69)) (a0_1 : Int) (A1 : Option Addr) (c1 : Nat) (l1 : List Int) (a2 : Int) (r1 : List (S69)) (r2 : Int) (w : World) (hr0_0 : Kd.C k69 w A0_0 l0_0.length l0_0) (hc0_0 : l0_0.length ≤ c0_0) (hr1 : Kd.C (Kd.int .i64) w A1 l1.length l1) (hc1 : l1.length ≤ c1) (h : calamusref11_with.f k l0_0 a0_1 l1 a2 = some (r1, r2)) :
  Calls Try.prog 81 #[.agg #[.slice A0_0 l0_0.length c0_0, .int .i64 a0_1], .slice A1 l1.length c1, .int .i64 a2] w fun e w' => ∃ v0_ : Value, e = .returned (.agg #[v0_, .int .i64 r2]) ∧ Kd.R k69 69 w' w.heap.size (fun _ => True) v0_ r1 ∧ Below w.heap.size w w' := by
 have hu46 := Try.underlying46
 have HR0_0 := Aside0.mk hr0_0
 have HC0_0 := Aside0.mk hc0_0
 clear hr0_0 hc0_0
 have HR1 := Aside0.mk hr1
 have HC1 := Aside0.mk hc1
 clear hr1 hc1
 have HB := Aside0.mk (Below.refl w.heap.size w)
 have H : (if ([] : List (S69)).length + l0_0.length < 1954687338268 then (calamusref11_with.l0 k l1 a2 (([] : List (S69)) ++ l0_0) 0) else (none)) = some (r1, r2) := h
 clear h
 by_cases c4 : ([] : List (S69)).length + l0_0.length < 1954687338268
 ·rw [if_pos c4] at H
  have LMc4 := Aside0.mk c4
  clear c4
  obtain ⟨y239, hy239⟩ : ∃ y_ : List (S69), y_ = (([] : List (S69)) ++ l0_0) := ⟨_, rfl⟩
  replace H : (calamusref11_with.l0 k l1 a2 y239 0) = some (r1, r2) := th_ H hy239
  have Ny239 := Aside0.mk hy239
  clear hy239
  have H' := Aside0.mk H
  clear H
  go_enter Try.func81, Try.ntmps81
  go_wp2_with (first | ((with_reducible refine gate_dst (N := 3) rfl ?_); refine be_ (N := 3) (cs := #[.slice A0_0 l0_0.length c0_0, .int .i64 a0_1]) (t := 46) (h := ?_); intro gb237 hg w5 hbox hb; have BK237 := Aside0.mk (hbox); have GW237 := gw_ HB hg; have GE237 := gw_ HB hg; replace HB := bs_ HB hb; clear hb hbox hg) | ((with_reducible refine gate_dst (N := 6) rfl ?_); refine be_ (N := 6) (cs := #[.slice none 0 0, .int .i64 0]) (t := 46) (h := ?_); intro gb238 hg w6 hbox hb; have BK238 := Aside0.mk (hbox); have GW238 := gw_ HB hg; have GE238 := gw_ HB hg; have NB237_238 := ne_ BK237 hg; have NB238_237 := en_ BK237 hg; replace BK237 := bb_ BK237 hb; replace HB := bs_ HB hb; clear hb hbox hg; have hnb7 := NB237_238.out; have hnc7 := NB238_237.out; obtain ⟨hcz8_0, hcz8_1, hfz8_0, hfz8_1⟩ := bc2_ BK237) | ((with_reducible refine gate_builtin (b := .append) (xs := #[.tmp 9, .tmp 11]) rfl ?_); at_builtin; refine Kd.R_append_rows k69 (w0 := w) w.heap.size rfl (.tmp 9) (.tmp 11) 44 69 (.agg #[(.int .i64 0), (.int .i64 0), (.int .i64 0), (.int .i64 0), (.int .i64 0), (.string ⟨#[]⟩), (.string ⟨#[]⟩)]) 72 rfl Try.underlying44 info69 rfl (by decide) (by omega) (.slice none 0 0) ([] : List (S69)) l0_0 _ _ _ (fun _ => True) (fun _ => False) rfl rfl ?aO ?aR (fun _ _ h => h) (fun _ h => h.elim) ?aF ?aB ?aS ?aL ?_; (case aR => repeat (first | exact (Kd.C_below HR0_0.out HB.out) | (with_reducible refine Kd.C_alloc ?_ _) | (with_reducible refine Kd.C_drewN ?_ _) | (with_reducible refine Kd.C_drew ?_))); (case aB => exact (hb_ HB)); (case aF => exact (fun _ _ => trivial)); (case aO => exact ((Kd.R_nil _ _ _ _ (fun _ => True)))); (case aS => exact (below_size (hb_ HB))); (case aL => have := LMc4.out; omega); intro v240 w9 ho hb hg hat; rw [← Ny239.out] at ho; have HO241 := Aside0.mk (ho); replace BK237 := Aside0.mk (blk_grown (g := gb237) (o := .cells #[.slice A0_0 l0_0.length c0_0, .int .i64 a0_1] 46 (0, 0)) (bw_ BK237.out) hg (by simp [Value.ownBlock])); replace BK238 := Aside0.mk (blk_grown (g := gb238) (o := .cells #[.slice none 0 0, .int .i64 0] 46 (0, 0)) (bw_ BK238.out) hg (by simp [Value.ownBlock])); replace HB := Aside0.mk (hb); clear ho hb hg hat))
  go_loopg [8] k (fun kq v8 w' => ∃ (x7_1 : List (S69)) (x8_1 : Int), v8 = .int .i64 x8_1 ∧ Aside0 (calamusref11_with.l0 kq l1 a2 x7_1 x8_1 = some (r1, r2)) ∧ Aside0 (kq ≤ k) ∧ Aside0 (Kd.R k69 69 w' w.heap.size (fun _ => True) v240 x7_1) ∧ Aside0 (w'.heap[gb237]? = some (.cells #[(.slice A0_0 l0_0.length c0_0), .int .i64 a0_1] 46 (0, 0))) ∧ Aside0 (w'.heap[gb238]? = some (.cells #[(.slice none 0 0), .int .i64 0] 46 (0, 0))) ∧ Aside0 (Below w.heap.size w w'))
  case atStart => exact ⟨(y239), (0), es_, H', ⟨Nat.le_refl _⟩, ⟨rw_ HO241.out⟩, ⟨bw_ BK237.out⟩, ⟨bw_ BK238.out⟩, ⟨hb_ HB⟩⟩
  case round =>
   clear H'
   try clear c4
   try clear hcz8_0
   try clear hcz8_1
   try clear hfz8_0
   try clear hfz8_1
   obtain ⟨x7_1, x8_1, rfl, HA, HK1, HO_7, BK237, BK238, HB⟩ := hrel
   cases gk with
   | zero => exact absurd HA.out (by simp [calamusref11_with.l0])
   | succ k1 =>
    have H := HA.out
    clear HA
    simp only [calamusref11_with.l0] at H
    by_cases c10 : x8_1 < (l1.length : Int)
    ·rw [if_pos c10] at H
     have c10b0 : decide (x8_1 < (l1.length : Int)) = true := decide_eq_true c10
     clear c10
     by_cases c11 : 0 ≤ x8_1
     ·rw [if_pos c11] at H
      have c11b0 : decide (0 ≤ x8_1) = true := decide_eq_true c11
      clear c11
      by_cases c12 : 0 ≤ (rd l1 x8_1)
      ·rw [if_pos c12] at H
       have c12b0 : decide (0 ≤ (rd l1 x8_1)) = true := decide_eq_true c12
       clear c12
       by_cases c13 : (rd l1 x8_1) < (x7_1.length : Int)
       ·rw [if_pos c13] at H
        have c13b0 : decide ((rd l1 x8_1) < (x7_1.length : Int)) = true := decide_eq_true c13
        clear c13
        by_cases c14 : 0 ≤ ((rd_T69 x7_1 (rd l1 x8_1)).f0)
        ·rw [if_pos c14] at H
         have c14b0 : decide (0 ≤ ((rd_T69 x7_1 (rd l1 x8_1)).f0)) = true := decide_eq_true c14
         clear c14
         by_cases c15 : ((rd_T69 x7_1 (rd l1 x8_1)).f0) < (x7_1.length : Int)
         ·rw [if_pos c15] at H
          have c15b0 : decide (((rd_T69 x7_1 (rd l1 x8_1)).f0) < (x7_1.length : Int)) = true := decide_eq_true c15
          clear c15
          obtain ⟨y245, hy245⟩ : ∃ y_ : List (S69), y_ = (x7_1.set (((rd_T69 x7_1 (rd l1 x8_1)).f0) : Int).toNat (⟨(rd_T69 x7_1 ((rd_T69 x7_1 (rd l1 x8_1)).f0)).f0, rd l1 x8_1, (rd_T69 x7_1 ((rd_T69 x7_1 (rd l1 x8_1)).f0)).f2, (rd_T69 x7_1 ((rd_T69 x7_1 (rd l1 x8_1)).f0)).f3, (⟨(rd_T69 x7_1 ((rd_T69 x7_1 (rd l1 x8_1)).f0)).f4.f0, (rd_T69 x7_1 ((rd_T69 x7_1 (rd l1 x8_1)).f0)).f4.f1, (rd_T69 x7_1 ((rd_T69 x7_1 (rd l1 x8_1)).f0)).f4.f2⟩ : S24)⟩ : S69)) := ⟨_, rfl⟩
          replace H : (calamusref11_with.l0 k1 l1 a2 y245 (wrap64 (x8_1 + 1))) = some (r1, r2) := th_ H hy245
          have Ny245 := Aside0.mk hy245
          clear hy245
          have H' := Aside0.mk H
          clear H
          try go_wp2
          have n0_ := Aside0.mk (Kd.R_drew HO_7.out)
          have n1_ := Aside0.mk (blk_drew BK237.out)
          have n2_ := Aside0.mk (blk_drew BK238.out)
          have n3_ := Aside0.mk (below_drew1 HB.out)
          clear HO_7
          clear BK237
          clear BK238
          clear HB
          have HO_7 := n0_
          have BK237 := n1_
          have BK238 := n2_
          have HB := n3_
          clear n0_ n1_ n2_ n3_
          have p242 : 0 ≤ (x8_1 : Int) := of_decide_eq_true as_
          have q242 : x8_1 < (l1.length : Int) := of_decide_eq_true as_
          obtain ⟨ad242, e242, hx242_0⟩ := Kd.at_int HR1.out x8_1 p242 q242
          have hw242_0 := hx242_0
          cases e242
          replace hx242_0 := cb_ HB hx242_0
          replace p242 := eq_true p242
          replace q242 := eq_true q242
          obtain ⟨Ao18, co18, eo18⟩ := Kd.R_slice HO_7.out
          (first | subst eo18 | (injection eo18 with f1_ f2_ f3_; have f4_ := f1_.symm; have f5_ := f3_.symm; clear f1_ f2_ f3_; subst f4_; subst f5_))
          have p243 : 0 ≤ ((rd l1 x8_1) : Int) := of_decide_eq_true as_
          have q243 : (rd l1 x8_1) < (x7_1.length : Int) := of_decide_eq_true as_
          obtain ⟨ad243, e243, hx243_0, hx243_1, hx243_2, hx243_3, hx243_4, hx243_5, hx243_6⟩ := at_T69 (Kd.R_reads' HO_7.out).2.2 (rd l1 x8_1) p243 q243
          cases e243
          replace p243 := eq_true p243
          replace q243 := eq_true q243
          have p244 : 0 ≤ (x8_1 : Int) := of_decide_eq_true as_
          have q244 : x8_1 < (l1.length : Int) := of_decide_eq_true as_
          obtain ⟨ad244, e244, hx244_0⟩ := Kd.at_int HR1.out x8_1 p244 q244
          have hw244_0 := hx244_0
          obtain rfl : ad242 = ad244 := (by injection e244)
          replace hx244_0 := cb_ HB hx244_0
          replace p244 := eq_true p244
          replace q244 := eq_true q244
          have p16 : 0 ≤ (((rd_T69 x7_1 (rd l1 x8_1)).f0) : Int) := of_decide_eq_true as_
          have q16 : (((rd_T69 x7_1 (rd l1 x8_1)).f0) : Int) < ((x7_1.length : Int) : Int) := of_decide_eq_true as_
          obtain ⟨go16, co16, eo16, gb16, gl16, cl16, HG16⟩ := Kd.R_form HO_7.out (by omega)
          (first | cases eo16 | (injection eo16 with ea_ en_ ec_; (first | subst ea_ | (injection ea_ with ea_; subst ea_)); subst ec_; clear en_))
          have GB16 := Aside0.mk gb16
          have GG16 := Aside0.mk HG16
          clear gb16 gl16 HG16
          (first | simp only [add_plain] at hx243_0 | skip)
          (first | simp only [add_plain] at hx243_1 | skip)
          (first | simp only [add_plain] at hx243_2 | skip)
          (first | simp only [add_plain] at hx243_3 | skip)
          (first | simp only [add_plain] at hx243_4 | skip)
          (first | simp only [add_plain] at hx243_5 | skip)
          (first | simp only [add_plain] at hx243_6 | skip)
          obtain ⟨ce16, hcl16, hM16, hcc16, hfr16⟩ := Kd.R_elem HO_7.out z69 (((rd_T69 x7_1 (rd l1 x8_1)).f0) : Int) p16 q16
          obtain rfl := k69_openM hM16
          have hx16_0 : World.cell? _ ⟨go16, (((rd_T69 x7_1 (rd l1 x8_1)).f0) : Int).toNat * 7, none⟩ = some (.int .i64 ((rd_T69 x7_1 ((rd_T69 x7_1 (rd l1 x8_1)).f0)).f0)) := hcc16 0 _ rfl
          have hx16_1 : World.cell? _ ⟨go16, (((rd_T69 x7_1 (rd l1 x8_1)).f0) : Int).toNat * 7 + 1, none⟩ = some (.int .i64 ((rd_T69 x7_1 ((rd_T69 x7_1 (rd l1 x8_1)).f0)).f1)) := hcc16 1 _ rfl
          have hx16_2 : World.cell? _ ⟨go16, (((rd_T69 x7_1 (rd l1 x8_1)).f0) : Int).toNat * 7 + 2, none⟩ = some (.int .i64 ((rd_T69 x7_1 ((rd_T69 x7_1 (rd l1 x8_1)).f0)).f2)) := hcc16 2 _ rfl
          have hx16_3 : World.cell? _ ⟨go16, (((rd_T69 x7_1 (rd l1 x8_1)).f0) : Int).toNat * 7 + 3, none⟩ = some (.int .i64 ((rd_T69 x7_1 ((rd_T69 x7_1 (rd l1 x8_1)).f0)).f3)) := hcc16 3 _ rfl
          have hx16_4 : World.cell? _ ⟨go16, (((rd_T69 x7_1 (rd l1 x8_1)).f0) : Int).toNat * 7 + 4, none⟩ = some (.int .i64 ((rd_T69 x7_1 ((rd_T69 x7_1 (rd l1 x8_1)).f0)).f4.f0)) := hcc16 4 _ rfl
          have hx16_5 : World.cell? _ ⟨go16, (((rd_T69 x7_1 (rd l1 x8_1)).f0) : Int).toNat * 7 + 5, none⟩ = some (.string ((rd_T69 x7_1 ((rd_T69 x7_1 (rd l1 x8_1)).f0)).f4.f1)) := hcc16 5 _ rfl
          have hx16_6 : World.cell? _ ⟨go16, (((rd_T69 x7_1 (rd l1 x8_1)).f0) : Int).toNat * 7 + 6, none⟩ = some (.string ((rd_T69 x7_1 ((rd_T69 x7_1 (rd l1 x8_1)).f0)).f4.f2)) := hcc16 6 _ rfl
          have hf16_0 : World.frozen? _ ⟨go16, (((rd_T69 x7_1 (rd l1 x8_1)).f0) : Int).toNat * 7, none⟩ = false := hfr16 0
          have hf16_1 : World.frozen? _ ⟨go16, (((rd_T69 x7_1 (rd l1 x8_1)).f0) : Int).toNat * 7 + 1, none⟩ = false := hfr16 1
          have hf16_2 : World.frozen? _ ⟨go16, (((rd_T69 x7_1 (rd l1 x8_1)).f0) : Int).toNat * 7 + 2, none⟩ = false := hfr16 2
          have hf16_3 : World.frozen? _ ⟨go16, (((rd_T69 x7_1 (rd l1 x8_1)).f0) : Int).toNat * 7 + 3, none⟩ = false := hfr16 3
          have hf16_4 : World.frozen? _ ⟨go16, (((rd_T69 x7_1 (rd l1 x8_1)).f0) : Int).toNat * 7 + 4, none⟩ = false := hfr16 4
          have hf16_5 : World.frozen? _ ⟨go16, (((rd_T69 x7_1 (rd l1 x8_1)).f0) : Int).toNat * 7 + 5, none⟩ = false := hfr16 5
          have hf16_6 : World.frozen? _ ⟨go16, (((rd_T69 x7_1 (rd l1 x8_1)).f0) : Int).toNat * 7 + 6, none⟩ = false := hfr16 6
          clear hcl16 hcc16 hfr16 hM16
          replace p16 := eq_true p16
          replace q16 := eq_true q16
          obtain ⟨ce19, hcl19, hM19, hcc19, hfr19⟩ := Kd.R_elem HO_7.out z69 (((rd_T69 x7_1 (rd l1 x8_1)).f0) : Int) (of_decide_eq_true as_) (by have h_ : (((rd_T69 x7_1 (rd l1 x8_1)).f0) : Int) < ((x7_1.length : Int) : Int) := of_decide_eq_true as_; first | exact h_ | (have e_ := (Kd.R_reads' HO_7.out).1; omega) | simpa using h_)
          obtain rfl := k69_openM hM19
          have HP19 := (Kd.R_seg HO_7.out (((rd_T69 x7_1 (rd l1 x8_1)).f0) : Int) (of_decide_eq_true as_) (by have h_ : (((rd_T69 x7_1 (rd l1 x8_1)).f0) : Int) < ((x7_1.length : Int) : Int) := of_decide_eq_true as_; first | exact h_ | (have e_ := (Kd.R_reads' HO_7.out).1; omega) | simpa using h_) (seg := [.int .i64 (rd l1 x8_1)]) (j := 1) hcl19 hcc19 (show 2 ≤ 7 from by decide) (x' := (⟨(rd_T69 x7_1 ((rd_T69 x7_1 (rd l1 x8_1)).f0)).f0, rd l1 x8_1, (rd_T69 x7_1 ((rd_T69 x7_1 (rd l1 x8_1)).f0)).f2, (rd_T69 x7_1 ((rd_T69 x7_1 (rd l1 x8_1)).f0)).f3, (⟨(rd_T69 x7_1 ((rd_T69 x7_1 (rd l1 x8_1)).f0)).f4.f0, (rd_T69 x7_1 ((rd_T69 x7_1 (rd l1 x8_1)).f0)).f4.f1, (rd_T69 x7_1 ((rd_T69 x7_1 (rd l1 x8_1)).f0)).f4.f2⟩ : S24)⟩ : S69)) (k69_mkM _ _ _ (⟨(rd_T69 x7_1 ((rd_T69 x7_1 (rd l1 x8_1)).f0)).f0, rd l1 x8_1, (rd_T69 x7_1 ((rd_T69 x7_1 (rd l1 x8_1)).f0)).f2, (rd_T69 x7_1 ((rd_T69 x7_1 (rd l1 x8_1)).f0)).f3, (⟨(rd_T69 x7_1 ((rd_T69 x7_1 (rd l1 x8_1)).f0)).f4.f0, (rd_T69 x7_1 ((rd_T69 x7_1 (rd l1 x8_1)).f0)).f4.f1, (rd_T69 x7_1 ((rd_T69 x7_1 (rd l1 x8_1)).f0)).f4.f2⟩ : S24)⟩ : S69) ) (fun _ hk => hk)).1
          rw [← Ny245.out] at HP19
          have HQ19 := Aside0.mk HP19
          clear hcl19 hcc19 hfr19 hM19 HP19
          refine start_ (n := 16) (S := fun w' => w'.cell? (ad242.add (x8_1).toNat) = some (.int .i64 (rd l1 x8_1)) ∧ w'.cell? (⟨go16, (((rd l1 x8_1)).toNat * 7), none⟩ : Addr) = some (.int .i64 ((rd_T69 x7_1 (rd l1 x8_1)).f0)) ∧ w'.cell? ⟨go16, ((((rd l1 x8_1)).toNat * 7)) + 1, none⟩ = some (.int .i64 ((rd_T69 x7_1 (rd l1 x8_1)).f1)) ∧ w'.cell? ⟨go16, ((((rd l1 x8_1)).toNat * 7)) + 2, none⟩ = some (.int .i64 ((rd_T69 x7_1 (rd l1 x8_1)).f2)) ∧ w'.cell? ⟨go16, ((((rd l1 x8_1)).toNat * 7)) + 3, none⟩ = some (.int .i64 ((rd_T69 x7_1 (rd l1 x8_1)).f3)) ∧ w'.cell? ⟨go16, ((((rd l1 x8_1)).toNat * 7)) + 4, none⟩ = some (.int .i64 ((rd_T69 x7_1 (rd l1 x8_1)).f4.f0)) ∧ w'.cell? ⟨go16, ((((rd l1 x8_1)).toNat * 7)) + 5, none⟩ = some (.string ((rd_T69 x7_1 (rd l1 x8_1)).f4.f1)) ∧ w'.cell? ⟨go16, ((((rd l1 x8_1)).toNat * 7)) + 6, none⟩ = some (.string ((rd_T69 x7_1 (rd l1 x8_1)).f4.f2)) ∧ w'.cell? (ad242.add (x8_1).toNat) = some (.int .i64 (rd l1 x8_1))) (ds := [15]) #[false, false, false, false, false, false, false, false, false, false, false, false, false, false, false, false] (by kernel_rfl) rfl rfl ⟨((HB.out.cell (World.block_lt_of_cell? w _ hw242_0)).trans hw242_0), hx243_0, hx243_1, hx243_2, hx243_3, hx243_4, hx243_5, hx243_6, ((HB.out.cell (World.block_lt_of_cell? w _ hw244_0)).trans hw244_0)⟩ (fun hHeld => ?_); refine with_tabW calamusref11_with.tab6 calamusref11_with.bits6 (fun HT_ HW_ => ?_)
          generalize wr.drew = w17 at HO_7 BK237 BK238 HB GG16 HQ19 hf16_0 hf16_1 hf16_2 hf16_3 hf16_4 hf16_5 hf16_6 hx16_0 hx16_1 hx16_2 hx16_3 hx16_4 hx16_5 hx16_6 hx242_0 hx243_0 hx243_1 hx243_2 hx243_3 hx243_4 hx243_5 hx243_6 hx244_0 hHeld ⊢
          refine pp_ (i := 0) (N := some 19) #[true, false, false, false, false, false, false, false, false, false, false, false, false, false, false, false] rfl rfl (any_of HT_.out (by kernel_rfl)) (h := ?_)
          refine pp_ (i := 1) (N := some 20) #[true, true, false, false, false, false, false, false, false, false, false, false, false, false, false, false] rfl rfl (any_of HT_.out (by kernel_rfl)) (h := ?_)
          refine pp_ (i := 2) (N := some 21) #[true, true, true, false, false, false, false, false, false, false, false, false, false, false, false, false] rfl rfl (any_of HT_.out (by kernel_rfl)) (h := ?_)
          refine pp_ (i := 3) (N := some 22) #[true, true, true, true, false, false, false, false, false, false, false, false, false, false, false, false] rfl rfl (any_of HT_.out (by kernel_rfl)) (h := ?_)
          refine pp_ (i := 4) (N := some 23) #[true, true, true, true, true, false, false, false, false, false, false, false, false, false, false, false] rfl rfl (any_of HT_.out (by kernel_rfl)) (h := ?_)
          refine pp_ (i := 9) (N := some 28) #[true, true, true, true, true, false, false, false, false, true, false, false, false, false, false, false] rfl rfl (any_of HT_.out (by kernel_rfl)) (h := ?_)
          refine pp_ (i := 10) (N := some 29) #[true, true, true, true, true, false, false, false, false, true, true, false, false, false, false, false] rfl rfl (any_of HT_.out (by kernel_rfl)) (h := ?_)
          refine pp_ (i := 11) (N := some 30) #[true, true, true, true, true, false, false, false, false, true, true, true, false, false, false, false] rfl rfl (any_of HT_.out (by kernel_rfl)) (h := ?_)
          refine take_ (i := 5) (N := some 24) (v := ?_) (a' := ?_) #[true, true, true, true, true, true, false, false, false, true, true, true, false, false, false, false] rfl rfl (take_ofW HT_.out HW_.out (by kernel_rfl)) (fun _ _ _ h => h) (Or.inl ⟨by rfl, ?_⟩) hHeld ?_ ?_
          rotate_left
          ·rintro w' ⟨s0, s1, s2, s3, s4, s5, s6, s7, s8⟩
           go_simp
           with_reducible rfl
          rotate_left
          ·simp only [Act.put, List.setIfInBounds_toArray, List.set_cons_zero, List.set_cons_succ, i64_w, i32_w]
           rfl
          refine pp_ (i := 6) (N := some 25) #[true, true, true, true, true, true, true, false, false, true, true, true, false, false, false, false] rfl rfl (any_of HT_.out (by kernel_rfl)) (h := ?_)
          refine pp_ (i := 7) (N := some 26) #[true, true, true, true, true, true, true, true, false, true, true, true, false, false, false, false] rfl rfl (any_of HT_.out (by kernel_rfl)) (h := ?_)
          refine take_ (i := 8) (N := some 27) (v := ?_) (a' := ?_) #[true, true, true, true, true, true, true, true, true, true, true, true, false, false, false, false] rfl rfl (take_ofW HT_.out HW_.out (by kernel_rfl)) (fun _ _ _ h => h) (Or.inl ⟨by rfl, ?_⟩) hHeld ?_ ?_
          rotate_left
          ·rintro w' ⟨s0, s1, s2, s3, s4, s5, s6, s7, s8⟩
           go_simp
           with_reducible rfl
          rotate_left
          ·simp only [Act.put, List.setIfInBounds_toArray, List.set_cons_zero, List.set_cons_succ, i64_w, i32_w]
           rfl
          refine take_ (i := 12) (N := some 31) (v := ?_) (a' := ?_) #[true, true, true, true, true, true, true, true, true, true, true, true, true, false, false, false] rfl rfl (take_ofW HT_.out HW_.out (by kernel_rfl)) (fun _ _ _ h => h) (Or.inl ⟨by rfl, ?_⟩) hHeld ?_ ?_
          rotate_left
          ·rintro w' ⟨s0, s1, s2, s3, s4, s5, s6, s7, s8⟩
           go_simp
           with_reducible rfl
          rotate_left
          ·simp only [Act.put, List.setIfInBounds_toArray, List.set_cons_zero, List.set_cons_succ, i64_w, i32_w]
           rfl
          refine pp_ (i := 13) (N := some 32) #[true, true, true, true, true, true, true, true, true, true, true, true, true, true, false, false] rfl rfl (any_of HT_.out (by kernel_rfl)) (h := ?_)
          refine pp_ (i := 14) (N := some 33) #[true, true, true, true, true, true, true, true, true, true, true, true, true, true, true, false] rfl rfl (any_of HT_.out (by kernel_rfl)) (h := ?_)
          refine last_ (i := 15) (N := none) #[true, true, true, true, true, true, true, true, true, true, true, true, true, true, true, true] rfl rfl (one_of HT_.out (by kernel_rfl)) (by decide) (fun K hK => ?_)
          refine skip_ (w1 := ?_) (by rfl) rfl ?_ ?_
          rotate_left
          ·go_simp
           rfl
          refine hK.out _ _ ?_
          clear hK K
          refine done_ (done_of HT_.out (by kernel_rfl)) ?_
          try go_wp2
          go_roundg k1
          case measure => have := HK1.out; omega
          case rel => exact ⟨(y245), (wrap64 (x8_1 + 1)), es_, H', ⟨by have := HK1.out; omega⟩, ⟨rw_ HQ19.out⟩, ⟨by (with_reducible repeat (first | refine blk_drewN ?_ _ | refine blk_drew ?_ | refine blk_alloc ?_ _)); refine blk_far ?_ (by have h_ := Kd.R_ne HO_7.out BK237.out (by decide); intro e_; exact h_ (by rw [e_]; rfl)) _; (with_reducible repeat (first | refine blk_drewN ?_ _ | refine blk_drew ?_ | refine blk_alloc ?_ _)); exact BK237.out⟩, ⟨by (with_reducible repeat (first | refine blk_drewN ?_ _ | refine blk_drew ?_ | refine blk_alloc ?_ _)); refine blk_far ?_ (by have h_ := Kd.R_ne HO_7.out BK238.out (by decide); intro e_; exact h_ (by rw [e_]; rfl)) _; (with_reducible repeat (first | refine blk_drewN ?_ _ | refine blk_drew ?_ | refine blk_alloc ?_ _)); exact BK238.out⟩, ⟨by repeat (first | (with_reducible first | exact HB.out | apply below_alloc | apply pw_below_drewN | apply below_drew1 | refine below_set ?_ GB16.out | refine below_set ?_ GE237.out | refine below_set ?_ GE238.out) | exact HB.out)⟩⟩
         ·rw [if_neg c15] at H
          exact absurd H (by simp)
        ·rw [if_neg c14] at H
         exact absurd H (by simp)
       ·rw [if_neg c13] at H
        exact absurd H (by simp)
      ·rw [if_neg c12] at H
       exact absurd H (by simp)
     ·rw [if_neg c11] at H
      exact absurd H (by simp)
    ·rw [if_neg c10] at H
     have c10b0 : decide (x8_1 < (l1.length : Int)) = false := decide_eq_false c10
     clear c10
     simp only [Option.some.injEq, Prod.mk.injEq] at H
     obtain ⟨rfl, rfl⟩ := H
     obtain ⟨Ao20, co20, eo20⟩ := Kd.R_slice HO_7.out
     subst eo20
     have hnb21 := NB238_237.out
     have hnc21 := NB237_238.out
     obtain ⟨hcz22_0, hcz22_1, hfz22_0, hfz22_1⟩ := bc2_ BK238
     go_wp2
     refine bodyPost_ret (results_cell_row rfl _ _ gb238 46 #[.slice Ao20 x7_1.length co20, .int .i64 a2] (0, 0) _ rfl (bp_ BK238.out) Try.underlying46 rfl (by kernel_rfl)) rfl ?_
     exact ⟨_, er_, by (with_reducible repeat (first | apply Kd.R_alloc | apply Kd.R_drewN | apply Kd.R_drew)); exact Kd.R_mono (rf_ (Kd.R_types HO_7.out BK238.out (by decide)) (fun _ hk => hk.2)) (fun _ hk => trivial), hb_ HB⟩
 ·rw [if_neg c4] at H
  exact absurd H (by simp)

/-! ### calamusref11_Add: function 35 -/
def calamusref11_Add.j0 : Nat → Int → Int → Bool → List (S69) → Int → Int → ByteArray → ByteArray → Option ((List (S69)) × Int × Int)
 | 0, _, _, _, _, _, _, _, _ => none
 | k + 1, x2, x3, x21, x247000, x247001, x248000, x248001, x248002 => if x21 = true then (some (([] : List (S69)), 0, 1)) else (if (x247000.length : Int) = 1024 then (some (([] : List (S69)), 0, 8)) else ((calamusref11_with.f k x247000 x247001 ([] : List Int) 0).bind fun bt250 => (if bt250.1.length < 1954687338268 then ((calamusref11_with.f k (bt250.1 ++ [(⟨x247001, (-1), x2, x3, (⟨x248000, x248001, x248002⟩ : S24)⟩ : S69)]) bt250.2 (([(x247000.length : Int)] : List Int)) (x247000.length : Int)).bind fun bt261 => (some (bt261.1, bt261.2, 0))) else (none))))
def calamusref11_Add.f (k : Nat) (l0_0 : List (S69)) (a0_1 : Int) (a1_0 : Int) (a1_1 : ByteArray) (a1_2 : ByteArray) (a2 : Int) (a3 : Int) : Option ((List (S69)) × Int × Int) := (calamusref11_Right.f k l0_0 a0_1).bind fun t249 => (if t249 = true then (if a2 < 0 then (calamusref11_Add.j0 k a2 a3 true l0_0 a0_1 a1_0 a1_1 a1_2) else (calamusref11_Add.j0 k a2 a3 (decide (a3 < 0)) l0_0 a0_1 a1_0 a1_1 a1_2)) else (calamusref11_Add.j0 k a2 a3 true l0_0 a0_1 a1_0 a1_1 a1_2))
theorem calamusref11_Add.mono_l : ∀ k, (∀ y0 y1 y2 y3 y4 y5 y6 y7, LeO (calamusref11_Add.j0 k y0 y1 y2 y3 y4 y5 y6 y7) (calamusref11_Add.j0 (k + 1) y0 y1 y2 y3 y4 y5 y6 y7))
 | 0 => fun _ _ _ _ _ _ _ _ r h => by simp [calamusref11_Add.j0] at h
 | k + 1 => by
  have ih0 := calamusref11_Add.mono_l k
  ·intro y0 y1 y2 y3 y4 y5 y6 y7
   unfold calamusref11_Add.j0
   repeat' first
   | (with_reducible exact ih0 _ _ _ _ _ _ _ _)
   | (with_reducible exact calamusref11_Right.mono _ _ _)
   | (with_reducible exact calamusref11_with.mono _ _ _ _ _)
   | (with_reducible exact LeO.refl _)
   | (with_reducible exact LeO.none _)
   | (with_reducible refine LeO.ite ?_ ?_)
   | (with_reducible refine LeO.bind ?_ (fun _ => ?_))
   | exact ih0 _ _ _ _ _ _ _ _
   | exact calamusref11_Right.mono _ _ _
   | exact calamusref11_with.mono _ _ _ _ _
   | exact LeO.none _
   | refine LeO.ite ?_ ?_
   | refine LeO.bind ?_ (fun _ => ?_)
theorem calamusref11_Add.mono : ∀ a0 a1 a2 a3 a4 a5 a6 k, LeO (calamusref11_Add.f k a0 a1 a2 a3 a4 a5 a6) (calamusref11_Add.f (k + 1) a0 a1 a2 a3 a4 a5 a6) := by
 intro a0 a1 a2 a3 a4 a5 a6 k
 have ih0 := calamusref11_Add.mono_l k
 unfold calamusref11_Add.f
 repeat' first
   | (with_reducible exact ih0 _ _ _ _ _ _ _ _)
   | (with_reducible exact calamusref11_Right.mono _ _ _)
   | (with_reducible exact calamusref11_with.mono _ _ _ _ _)
   | (with_reducible exact LeO.refl _)
   | (with_reducible exact LeO.none _)
   | (with_reducible refine LeO.ite ?_ ?_)
   | (with_reducible refine LeO.bind ?_ (fun _ => ?_))
   | exact ih0 _ _ _ _ _ _ _ _
   | exact calamusref11_Right.mono _ _ _
   | exact calamusref11_with.mono _ _ _ _ _
   | exact LeO.none _
   | refine LeO.ite ?_ ?_
   | refine LeO.bind ?_ (fun _ => ?_)
set_option maxHeartbeats 8000000 in
set_option maxRecDepth 100000 in
theorem calamusref11_Add.calls (k : Nat) (A0_0 : Option Addr) (c0_0 : Nat) (l0_0 : List (S69)) (a0_1 : Int) (a1_0 : Int) (a1_1 : ByteArray) (a1_2 : ByteArray) (a2 : Int) (a3 : Int) (r1 : List (S69)) (r2 : Int) (r3 : Int) (w : World) (hr0_0 : Kd.C k69 w A0_0 l0_0.length l0_0) (hc0_0 : l0_0.length ≤ c0_0) (h : calamusref11_Add.f k l0_0 a0_1 a1_0 a1_1 a1_2 a2 a3 = some (r1, r2, r3)) :
  Calls Try.prog 35 #[.agg #[.slice A0_0 l0_0.length c0_0, .int .i64 a0_1], .agg #[.int .i64 a1_0, .string a1_1, .string a1_2], .int .i64 a2, .int .i64 a3] w fun e w' => ∃ v0_ : Value, e = .returned (.tuple #[.agg #[v0_, .int .i64 r2], .int .i64 r3]) ∧ Kd.R k69 69 w' w.heap.size (fun _ => True) v0_ r1 ∧ Below w.heap.size w w' := by
 have hu46 := Try.underlying46
 have hu24 := Try.underlying24
 have hu69 := Try.underlying69
 have HR0_0 := Aside0.mk hr0_0
 have HC0_0 := Aside0.mk hc0_0
 clear hr0_0 hc0_0
 have HB := Aside0.mk (Below.refl w.heap.size w)
 have H : ((calamusref11_Right.f k l0_0 a0_1).bind fun t249 => (if t249 = true then (if a2 < 0 then (calamusref11_Add.j0 k a2 a3 true l0_0 a0_1 a1_0 a1_1 a1_2) else (calamusref11_Add.j0 k a2 a3 (decide (a3 < 0)) l0_0 a0_1 a1_0 a1_1 a1_2)) else (calamusref11_Add.j0 k a2 a3 true l0_0 a0_1 a1_0 a1_1 a1_2))) = some (r1, r2, r3) := h
 clear h
 have HC5 := Aside0.mk H
 clear H
 go_enter Try.func35, Try.ntmps35
 go_upto_region 1 with (first | ((with_reducible refine gate_dst (N := 4) rfl ?_); refine be_ (N := 4) (cs := #[.slice A0_0 l0_0.length c0_0, .int .i64 a0_1]) (t := 46) (h := ?_); intro gb246 hg w6 hbox hb; have BK246 := Aside0.mk (hbox); have GW246 := gw_ HB hg; have GE246 := gw_ HB hg; replace HB := bs_ HB hb; clear hb hbox hg) | ((with_reducible refine gate_dst (N := 5) rfl ?_); refine be_ (N := 5) (cs := #[.int .i64 a1_0, .string a1_1, .string a1_2]) (t := 24) (h := ?_); intro gb247 hg w7 hbox hb; have BK247 := Aside0.mk (hbox); have GW247 := gw_ HB hg; have GE247 := gw_ HB hg; have NB246_247 := ne_ BK246 hg; have NB247_246 := en_ BK246 hg; replace BK246 := bb_ BK246 hb; replace HB := bs_ HB hb; clear hb hbox hg) | ((with_reducible refine gate_dst (N := 8) rfl ?_); refine be_ (N := 8) (cs := #[.slice none 0 0, .int .i64 0]) (t := 46) (h := ?_); intro gb248 hg w8 hbox hb; have BK248 := Aside0.mk (hbox); have GW248 := gw_ HB hg; have GE248 := gw_ HB hg; have NB246_248 := ne_ BK246 hg; have NB248_246 := en_ BK246 hg; have NB247_248 := ne_ BK247 hg; have NB248_247 := en_ BK247 hg; replace BK246 := bb_ BK246 hb; replace BK247 := bb_ BK247 hb; replace HB := bs_ HB hb; clear hb hbox hg))
 (try simp only [Act.put, List.setIfInBounds_toArray, List.set_cons_zero, List.set_cons_succ])
 go_cut [21] (fun v21 wc => ∃ (kq : Nat) (x21_4 : Bool), v21 = .bool x21_4 ∧ Aside0 (calamusref11_Add.j0 kq a2 a3 x21_4 l0_0 a0_1 a1_0 a1_1 a1_2 = some (r1, r2, r3)) ∧ Aside0 (kq ≤ k) ∧ Aside0 (wc.heap[gb246]? = some (.cells #[(.slice A0_0 l0_0.length c0_0), .int .i64 a0_1] 46 (0, 0))) ∧ Aside0 (wc.heap[gb247]? = some (.cells #[.int .i64 a1_0, .string a1_1, .string a1_2] 24 (0, 0))) ∧ Aside0 (wc.heap[gb248]? = some (.cells #[(.slice none 0 0), .int .i64 0] 46 (0, 0))) ∧ Aside0 (Below w.heap.size w wc))
 case first =>
  have H := HC5.out
  clear HC5
  replace H := Option.bind_eq_some_iff.mp H
  obtain ⟨t249, A90, H⟩ := H
  replace H : (if t249 = true then (if a2 < 0 then (calamusref11_Add.j0 k a2 a3 true l0_0 a0_1 a1_0 a1_1 a1_2) else (calamusref11_Add.j0 k a2 a3 (decide (a3 < 0)) l0_0 a0_1 a1_0 a1_1 a1_2)) else (calamusref11_Add.j0 k a2 a3 true l0_0 a0_1 a1_0 a1_1 a1_2)) = some (r1, r2, r3) := H
  have A9 := Aside0.mk A90
  clear A90
  by_cases c10 : t249 = true
  ·subst c10
   have H1 : (if a2 < 0 then (calamusref11_Add.j0 k a2 a3 true l0_0 a0_1 a1_0 a1_1 a1_2) else (calamusref11_Add.j0 k a2 a3 (decide (a3 < 0)) l0_0 a0_1 a1_0 a1_1 a1_2)) = some (r1, r2, r3) := by rw [if_pos rfl] at H; exact H
   clear H
   have H := H1
   clear H1
   by_cases c11 : a2 < 0
   ·rw [if_pos c11] at H
    have c11b0 : decide (a2 < 0) = true := decide_eq_true c11
    clear c11
    (first | rw [c11b0] | (simp only [i64_w, i32_w]; rw [c11b0]) | skip)
    have H' := Aside0.mk H
    clear H
    have hnb12 := NB246_247.out
    have hnc12 := NB247_246.out
    have hnb13 := NB246_248.out
    have hnc13 := NB248_246.out
    obtain ⟨hcz14_0, hcz14_1, hfz14_0, hfz14_1⟩ := bc2_ BK246
    go_wp2_with (first | ((with_reducible refine gate_callee (f := 37) rfl ?_); refine ge_ (some 12) rfl rfl Try.func37 (by kernel_rfl) rfl #[.agg #[.slice A0_0 l0_0.length c0_0, .int .i64 a0_1]] rfl (h := ?_); (with_reducible refine (calamusref11_Right.calls k _ _ l0_0 a0_1 true _ ?side1 ?side2 A9.out).mono ?_); (case side1 => exact cw_ (Kd.C_below HR0_0.out HB.out)); (case side2 => exact HC0_0.out); rintro e w15 ⟨rfl, hb⟩; refine ⟨_, rfl, ?_⟩; replace BK246 := bb_ BK246 hb; replace BK247 := bb_ BK247 hb; replace BK248 := bb_ BK248 hb; replace HB := bs_ HB hb; (try clear hb); (try clear hb2); (try clear hk); (try clear hi)))
    go_meet
    case rel => exact ⟨_, (true), es_, H', ⟨by first | omega | exact Nat.le_refl _⟩, ⟨bw_ BK246.out⟩, ⟨bw_ BK247.out⟩, ⟨bw_ BK248.out⟩, ⟨hb_ HB⟩⟩
   ·rw [if_neg c11] at H
    have c11b0 : decide (a2 < 0) = false := decide_eq_false c11
    clear c11
    (first | rw [c11b0] | (simp only [i64_w, i32_w]; rw [c11b0]) | skip)
    have H' := Aside0.mk H
    clear H
    have hnb16 := NB246_247.out
    have hnc16 := NB247_246.out
    have hnb17 := NB246_248.out
    have hnc17 := NB248_246.out
    obtain ⟨hcz18_0, hcz18_1, hfz18_0, hfz18_1⟩ := bc2_ BK246
    go_wp2_with (first | ((with_reducible refine gate_callee (f := 37) rfl ?_); refine ge_ (some 12) rfl rfl Try.func37 (by kernel_rfl) rfl #[.agg #[.slice A0_0 l0_0.length c0_0, .int .i64 a0_1]] rfl (h := ?_); (with_reducible refine (calamusref11_Right.calls k _ _ l0_0 a0_1 true _ ?side1 ?side2 A9.out).mono ?_); (case side1 => exact cw_ (Kd.C_below HR0_0.out HB.out)); (case side2 => exact HC0_0.out); rintro e w19 ⟨rfl, hb⟩; refine ⟨_, rfl, ?_⟩; replace BK246 := bb_ BK246 hb; replace BK247 := bb_ BK247 hb; replace BK248 := bb_ BK248 hb; replace HB := bs_ HB hb; (try clear hb); (try clear hb2); (try clear hk); (try clear hi)))
    go_meet
    case rel => exact ⟨_, (decide (a3 < 0)), es_, H', ⟨by first | omega | exact Nat.le_refl _⟩, ⟨bw_ BK246.out⟩, ⟨bw_ BK247.out⟩, ⟨bw_ BK248.out⟩, ⟨hb_ HB⟩⟩
  ·replace c10 := Bool.eq_false_iff.mpr c10
   subst c10
   have H1 : (calamusref11_Add.j0 k a2 a3 true l0_0 a0_1 a1_0 a1_1 a1_2) = some (r1, r2, r3) := by rw [if_neg (show ¬ (false = true) by decide)] at H; exact H
   clear H
   have H := H1
   clear H1
   have H' := Aside0.mk H
   clear H
   have hnb20 := NB246_247.out
   have hnc20 := NB247_246.out
   have hnb21 := NB246_248.out
   have hnc21 := NB248_246.out
   obtain ⟨hcz22_0, hcz22_1, hfz22_0, hfz22_1⟩ := bc2_ BK246
   go_wp2_with (first | ((with_reducible refine gate_callee (f := 37) rfl ?_); refine ge_ (some 12) rfl rfl Try.func37 (by kernel_rfl) rfl #[.agg #[.slice A0_0 l0_0.length c0_0, .int .i64 a0_1]] rfl (h := ?_); (with_reducible refine (calamusref11_Right.calls k _ _ l0_0 a0_1 false _ ?side1 ?side2 A9.out).mono ?_); (case side1 => exact cw_ (Kd.C_below HR0_0.out HB.out)); (case side2 => exact HC0_0.out); rintro e w23 ⟨rfl, hb⟩; refine ⟨_, rfl, ?_⟩; replace BK246 := bb_ BK246 hb; replace BK247 := bb_ BK247 hb; replace BK248 := bb_ BK248 hb; replace HB := bs_ HB hb; (try clear hb); (try clear hb2); (try clear hk); (try clear hi)))
   go_meet
   case rel => exact ⟨_, (true), es_, H', ⟨by first | omega | exact Nat.le_refl _⟩, ⟨bw_ BK246.out⟩, ⟨bw_ BK247.out⟩, ⟨bw_ BK248.out⟩, ⟨hb_ HB⟩⟩
 case rest =>
  clear HC5
  obtain ⟨kq, x21_4, rfl, HA, HJ4, BK246, BK247, BK248, HB⟩ := hcut
  cases kq with
  | zero => exact absurd HA.out (by simp [calamusref11_Add.j0])
  | succ kj4 =>
   have H := HA.out
   clear HA
   simp only [calamusref11_Add.j0] at H
   by_cases c24 : x21_4 = true
   ·subst c24
    have H1 : (some (([] : List (S69)), 0, 1)) = some (r1, r2, r3) := by rw [if_pos rfl] at H; exact H
    clear H
    have H := H1
    clear H1
    simp only [Option.some.injEq, Prod.mk.injEq] at H
    obtain ⟨rfl, rfl, rfl⟩ := H
    have hnb25 := NB248_246.out
    have hnc25 := NB246_248.out
    have hnb26 := NB248_247.out
    have hnc26 := NB247_248.out
    obtain ⟨hcz27_0, hcz27_1, hfz27_0, hfz27_1⟩ := bc2_ BK248
    go_wp2
    refine bodyPost_ret (results_ct rfl _ _ gb248 46 #[.slice none 0 0, .int .i64 0] (0, 0) _ rfl (bp_ BK248.out) Try.underlying46 rfl (by kernel_rfl)) rfl ?_
    exact ⟨_, er_, by first | exact Kd.R_nil _ _ _ _ _ | exact Kd.N_nil _ _ _ _ _ | exact Kd.V_nil _ _ _ _ _ | exact Kd.Q_nil _ _ _ _ _ | exact Kd.S_nil _ _ _ _ _, hb_ HB⟩
   ·replace c24 := Bool.eq_false_iff.mpr c24
    subst c24
    have H1 : (if (l0_0.length : Int) = 1024 then (some (([] : List (S69)), 0, 8)) else ((calamusref11_with.f kj4 l0_0 a0_1 ([] : List Int) 0).bind fun bt250 => (if bt250.1.length < 1954687338268 then ((calamusref11_with.f kj4 (bt250.1 ++ [(⟨a0_1, (-1), a2, a3, (⟨a1_0, a1_1, a1_2⟩ : S24)⟩ : S69)]) bt250.2 (([(l0_0.length : Int)] : List Int)) (l0_0.length : Int)).bind fun bt261 => (some (bt261.1, bt261.2, 0))) else (none)))) = some (r1, r2, r3) := by rw [if_neg (show ¬ (false = true) by decide)] at H; exact H
    clear H
    have H := H1
    clear H1
    by_cases c28 : (l0_0.length : Int) = 1024
    ·rw [if_pos c28] at H
     have c28b0 : ((l0_0.length : Int) == 1024) = true := beq_iff_eq.mpr c28
     have c28b1 : ((l0_0.length : Int) != 1024) = false := bne_eq_false_iff_eq.mpr c28
     clear c28
     simp only [Option.some.injEq, Prod.mk.injEq] at H
     obtain ⟨rfl, rfl, rfl⟩ := H
     have hnb29 := NB246_247.out
     have hnc29 := NB247_246.out
     have hnb30 := NB246_248.out
     have hnc30 := NB248_246.out
     obtain ⟨hcz31_0, hcz31_1, hfz31_0, hfz31_1⟩ := bc2_ BK246
     have hnb32 := NB248_247.out
     have hnc32 := NB247_248.out
     obtain ⟨hcz33_0, hcz33_1, hfz33_0, hfz33_1⟩ := bc2_ BK248
     go_wp2
     refine bodyPost_ret (results_ct rfl _ _ gb248 46 #[.slice none 0 0, .int .i64 0] (0, 0) _ rfl (bp_ BK248.out) Try.underlying46 rfl (by kernel_rfl)) rfl ?_
     exact ⟨_, er_, by first | exact Kd.R_nil _ _ _ _ _ | exact Kd.N_nil _ _ _ _ _ | exact Kd.V_nil _ _ _ _ _ | exact Kd.Q_nil _ _ _ _ _ | exact Kd.S_nil _ _ _ _ _, hb_ HB⟩
    ·rw [if_neg c28] at H
     have c28b0 : ((l0_0.length : Int) == 1024) = false := beq_eq_false_iff_ne.mpr c28
     have c28b1 : ((l0_0.length : Int) != 1024) = true := bne_iff_ne.mpr c28
     replace H := Option.bind_eq_some_iff.mp H
     obtain ⟨⟨t250, t253⟩, A340, H⟩ := H
     replace H : (if t250.length < 1954687338268 then ((calamusref11_with.f kj4 (t250 ++ [(⟨a0_1, (-1), a2, a3, (⟨a1_0, a1_1, a1_2⟩ : S24)⟩ : S69)]) t253 (([(l0_0.length : Int)] : List Int)) (l0_0.length : Int)).bind fun bt261 => (some (bt261.1, bt261.2, 0))) else (none)) = some (r1, r2, r3) := H
     have A34 := Aside0.mk A340
     clear A340
     by_cases c35 : t250.length < 1954687338268
     ·rw [if_pos c35] at H
      have LMc35 := Aside0.mk c35
      clear c35
      obtain ⟨y255, hy255⟩ : ∃ y_ : List (S69), y_ = (t250 ++ [(⟨a0_1, (-1), a2, a3, (⟨a1_0, a1_1, a1_2⟩ : S24)⟩ : S69)]) := ⟨_, rfl⟩
      replace H : ((calamusref11_with.f kj4 y255 t253 (([(l0_0.length : Int)] : List Int)) (l0_0.length : Int)).bind fun bt261 => (some (bt261.1, bt261.2, 0))) = some (r1, r2, r3) := th_ H hy255
      have Ny255 := Aside0.mk hy255
      clear hy255
      obtain ⟨y258, hy258⟩ : ∃ y_ : List Int, y_ = (([(l0_0.length : Int)] : List Int)) := ⟨_, rfl⟩
      replace H : ((calamusref11_with.f kj4 y255 t253 y258 (l0_0.length : Int)).bind fun bt261 => (some (bt261.1, bt261.2, 0))) = some (r1, r2, r3) := th_ H hy258
      have Ny258 := Aside0.mk hy258
      clear hy258
      replace H := Option.bind_eq_some_iff.mp H
      obtain ⟨⟨t261, t264⟩, A360, H⟩ := H
      replace H : (some (t261, t264, 0)) = some (r1, r2, r3) := H
      have A36 := Aside0.mk A360
      clear A360
      simp only [Option.some.injEq, Prod.mk.injEq] at H
      obtain ⟨rfl, rfl, rfl⟩ := H
      have hnb37 := NB246_247.out
      have hnc37 := NB247_246.out
      have hnb38 := NB246_248.out
      have hnc38 := NB248_246.out
      obtain ⟨hcz39_0, hcz39_1, hfz39_0, hfz39_1⟩ := bc2_ BK246
      go_wp2_with (first | ((with_reducible refine gate_callee (f := 81) rfl ?_); refine ge_ (some 29) rfl rfl Try.func81 (by kernel_rfl) rfl #[.agg #[.slice A0_0 l0_0.length c0_0, .int .i64 a0_1], .slice none 0 0, .int .i64 0] rfl (h := ?_); (refine (calamusref11_with.calls kj4 _ _ l0_0 a0_1 _ _ ([] : List Int) 0 t250 t253 _ ?side1 ?side2 ?side3 ?side4 A34.out).mono ?_); (case side1 => exact cw_ (Kd.C_below HR0_0.out HB.out)); (case side2 => exact HC0_0.out); (case side3 => exact Kd.C_nil _ _); (case side4 => exact Nat.le_refl _); rintro e w40 ⟨v251, rfl, ho0, hb⟩; refine ⟨_, rfl, ?_⟩; have HO252 := Aside0.mk (Kd.R_lower ho0 (below_size (hb_ HB))); replace BK246 := bb_ BK246 hb; replace BK247 := bb_ BK247 hb; replace BK248 := bb_ BK248 hb; replace HB := bs_ HB hb; (try clear hb); (try clear hb2); (try clear hk); (try clear hi); (try clear ho0)) | ((with_reducible refine gate_dst (N := 10) rfl ?_); refine be_ (N := 10) (cs := #[.slice none 0 0, .int .i64 0]) (t := 46) (h := ?_); intro gb254 hg w41 hbox hb; have BK254 := Aside0.mk (hbox); have GW254 := gw_ HB hg; have GE254 := gw_ HB hg; have NB246_254 := ne_ BK246 hg; have NB254_246 := en_ BK246 hg; have NB247_254 := ne_ BK247 hg; have NB254_247 := en_ BK247 hg; have NB248_254 := ne_ BK248 hg; have NB254_248 := en_ BK248 hg; replace HO252 := Aside0.mk (Kd.R_below (rw_ HO252.out) hb); replace BK246 := bb_ BK246 hb; replace BK247 := bb_ BK247 hb; replace BK248 := bb_ BK248 hb; replace HB := bs_ HB hb; clear hb hbox hg; obtain ⟨Ao42, co42, eo42⟩ := Kd.R_slice HO252.out; subst eo42; have hnb43 := NB254_246.out; have hnc43 := NB246_254.out; have hnb44 := NB254_247.out; have hnc44 := NB247_254.out; have hnb45 := NB254_248.out; have hnc45 := NB248_254.out; obtain ⟨hcz46_0, hcz46_1, hfz46_0, hfz46_1⟩ := bc2_ BK254; obtain ⟨hcz47_0, hcz47_1, hfz47_0, hfz47_1⟩ := bc2_ BK246; have hnb48 := NB247_248.out; have hnc48 := NB248_247.out; obtain ⟨hcz49_0, hcz49_1, hcz49_2, hfz49_0, hfz49_1, hfz49_2⟩ := bc3_ BK247) | ((with_reducible refine gate_builtin (b := .append) (xs := #[.tmp 31, .tmp 38]) rfl ?_); at_builtin; refine Kd.R_append k69 (w0 := w) w.heap.size rfl (.tmp 31) (.tmp 38) 44 69 (.agg #[(.int .i64 0), (.int .i64 0), (.int .i64 0), (.int .i64 0), (.int .i64 0), (.string ⟨#[]⟩), (.string ⟨#[]⟩)]) 72 rfl Try.underlying44 info69 rfl (by decide) (by omega) (.slice Ao42 t250.length co42) t250 (⟨a0_1, (-1), a2, a3, (⟨a1_0, a1_1, a1_2⟩ : S24)⟩ : S69) [.int .i64 a0_1, .int .i64 (-1), .int .i64 a2, .int .i64 a3, .int .i64 a1_0, .string a1_1, .string a1_2] (fun _ => True) (fun _ => False) rfl (by first | (go_simp; done) | (go_simp; rfl)) ?aP (fun _ hk => hk.elim) ?aF ?aO ?aB ?aS ?aL ?_; (case aP => exact k69_mkM _ _ _ (⟨a0_1, (-1), a2, a3, (⟨a1_0, a1_1, a1_2⟩ : S24)⟩ : S69)); (case aB => exact (hb_ HB)); (case aF => exact (fun _ _ => trivial)); (case aO => exact (by (with_reducible repeat (first | apply Kd.R_alloc | apply Kd.R_drewN | apply Kd.R_drew)); exact Kd.R_mono (rf_ (Kd.R_types HO252.out BK254.out (by decide)) (fun _ hk => hk.2)) (fun _ hk => trivial))); (case aS => exact (below_size (hb_ HB))); (case aL => have := LMc35.out; omega); intro v256 w50 ho hb hg hat; rw [← Ny255.out] at ho; have n0_ := Aside0.mk (blk_grown (g := gb246) (o := .cells #[.slice A0_0 l0_0.length c0_0, .int .i64 a0_1] 46 (0, 0)) (bp_ BK246.out) hg (Kd.R_ne HO252.out BK246.out (by decide))); have n1_ := Aside0.mk (blk_grown (g := gb247) (o := .cells #[.int .i64 a1_0, .string a1_1, .string a1_2] 24 (0, 0)) (bp_ BK247.out) hg (Kd.R_ne HO252.out BK247.out (by decide))); have n2_ := Aside0.mk (blk_grown (g := gb248) (o := .cells #[.slice none 0 0, .int .i64 0] 46 (0, 0)) (bp_ BK248.out) hg (Kd.R_ne HO252.out BK248.out (by decide))); have n3_ := Aside0.mk (blk_grown (g := gb254) (o := .cells #[.slice Ao42 t250.length co42, .int .i64 t253] 46 (0, 0)) (bp_ BK254.out) hg (Kd.R_ne HO252.out BK254.out (by decide))); have n4_ := Aside0.mk (hb); have n5_ := Aside0.mk (ho); clear BK246; clear BK247; clear BK248; clear BK254; clear HB; clear HO252; have BK246 := n0_; have BK247 := n1_; have BK248 := n2_; have BK254 := n3_; have HB := n4_; have HO257 := n5_; clear n0_ n1_ n2_ n3_ n4_ n5_; clear ho hb hg hat; obtain ⟨Ao51, co51, eo51⟩ := Kd.R_slice HO257.out; subst eo51; obtain ⟨hcz52_0, hcz52_1, hfz52_0, hfz52_1⟩ := bc2_ BK254; obtain ⟨hcz53_0, hcz53_1, hfz53_0, hfz53_1⟩ := bc2_ BK246) | ((with_reducible refine gate_dst (N := 45) rfl ?_); refine Kd.R_lit (Kd.int .i64) _ 3 ?hg (N := 45) ?hd (xs := ([(l0_0.length : Int)] : List Int)) (inner := [.int .i64 (l0_0.length : Int)]) (ok := fun _ => True) (okp := fun _ => True) ?hr ?hp (fun _ hk => hk) trivial (Below.refl _ _) (Nat.le_refl _) (by simp) ?_; (case hd => rfl); (case hg => rfl); (case hr => first | (go_simp; done) | (go_simp; rfl)); (case hp => exact (Reps.one (show Kd.M (Kd.int .i64) _ _ _ (l0_0.length : Int) [.int .i64 (l0_0.length : Int)] from rfl) (Reps.none _ _))); intro v259 w54 ho55 hb hg_ hnew_; clear hg_ hnew_; (first | rw [← Ny258.out] at ho55 | (simp only [Int.reduceToNat] at ho55; rw [← Ny258.out] at ho55)); have HO260 := Aside0.mk (Kd.R_lower ho55 (below_size (hb_ HB))); replace HO257 := Aside0.mk (Kd.R_below (by (with_reducible repeat (first | apply Kd.R_alloc | apply Kd.R_drewN | apply Kd.R_drew)); exact (Kd.R_mono (Kd.R_far (p := ⟨gb254, 0, none⟩) (Kd.R_types HO257.out BK254.out (by decide)) (fun _ hk => hk.2) (.slice Ao51 y255.length co51)) (fun _ h_ => h_.1))) hb); replace BK246 := Aside0.mk (blk_below (g := gb246) (o := .cells #[.slice A0_0 l0_0.length c0_0, .int .i64 a0_1] 46 (0, 0)) (bp_ BK246.out) hb); replace BK247 := Aside0.mk (blk_below (g := gb247) (o := .cells #[.int .i64 a1_0, .string a1_1, .string a1_2] 24 (0, 0)) (bp_ BK247.out) hb); replace BK248 := Aside0.mk (blk_below (g := gb248) (o := .cells #[.slice none 0 0, .int .i64 0] 46 (0, 0)) (bp_ BK248.out) hb); replace HB := bs_ HB hb; replace BK254 := Aside0.mk (blk_below (g := gb254) (o := .cells #[.slice Ao51 y255.length co51, .int .i64 t253] 46 (0, 0)) (bp_ BK254.out) hb); clear hb ho55; obtain ⟨hcz56_0, hcz56_1, hfz56_0, hfz56_1⟩ := bc2_ BK246; obtain ⟨Ao57, co57, eo57⟩ := Kd.R_slice HO260.out; subst eo57) | ((with_reducible refine gate_callee (f := 81) rfl ?_); refine ge_ (some 49) rfl rfl Try.func81 (by kernel_rfl) rfl #[.agg #[.slice Ao51 y255.length co51, .int .i64 t253], .slice Ao57 y258.length co57, .int .i64 (l0_0.length : Int)] rfl (h := ?_); (with_reducible refine (calamusref11_with.calls kj4 _ _ y255 t253 _ _ y258 (l0_0.length : Int) t261 t264 _ ?side1 ?side2 ?side3 ?side4 A36.out).mono ?_); (case side1 => repeat (first | exact (Kd.R_reads' HO257.out).2.2 | (with_reducible refine Kd.C_alloc ?_ _) | (with_reducible refine Kd.C_drewN ?_ _) | (with_reducible refine Kd.C_drew ?_))); (case side2 => exact (Kd.R_reads' HO257.out).2.1); (case side3 => repeat (first | exact (Kd.R_reads' HO260.out).2.2 | (with_reducible refine Kd.C_alloc ?_ _) | (with_reducible refine Kd.C_drewN ?_ _) | (with_reducible refine Kd.C_drew ?_))); (case side4 => exact (Kd.R_reads' HO260.out).2.1); rintro e w58 ⟨v262, rfl, ho0, hb⟩; refine ⟨_, rfl, ?_⟩; have HO263 := Aside0.mk (Kd.R_lower (Kd.R_new' ho0 (Kd.R_lt (rw_ HO257.out))) (below_size (hb_ HB))); replace HO257 := Aside0.mk (Kd.R_elder' (rw_ HO257.out) (Kd.R_base ho0) hb); replace HO260 := Aside0.mk (Kd.R_below (rw_ HO260.out) hb); replace BK246 := bb_ BK246 hb; replace BK247 := bb_ BK247 hb; replace BK248 := bb_ BK248 hb; replace BK254 := bb_ BK254 hb; replace HB := bs_ HB hb; (try clear hb); (try clear hb2); (try clear hk); (try clear hi); (try clear ho0); obtain ⟨Ao59, co59, eo59⟩ := Kd.R_slice HO263.out; subst eo59; obtain ⟨hcz60_0, hcz60_1, hfz60_0, hfz60_1⟩ := bc2_ BK248))
      refine bodyPost_ret (results_ct rfl _ _ gb248 46 #[.slice Ao59 t261.length co59, .int .i64 t264] (0, 0) _ rfl (bp_ BK248.out) Try.underlying46 rfl (by kernel_rfl)) rfl ?_
      exact ⟨_, er_, by (with_reducible repeat (first | apply Kd.R_alloc | apply Kd.R_drewN | apply Kd.R_drew)); exact Kd.R_mono (rf_ (Kd.R_types HO263.out BK248.out (by decide)) (fun _ hk => hk.2)) (fun _ hk => trivial), hb_ HB⟩
     ·rw [if_neg c35] at H
      exact absurd H (by simp)

/-! ### tree_Right: function 36 -/
def tree_Right.f (k : Nat) (l0_0 : List (S69)) (a0_1 : Int) : Option (Bool) := (tree_open.f k l0_0 a0_1).bind fun bt266 => (some bt266.2.2)
theorem tree_Right.mono : ∀ a0 a1 k, LeO (tree_Right.f k a0 a1) (tree_Right.f (k + 1) a0 a1) := by
 intro a0 a1 k
 unfold tree_Right.f
 repeat' first
   | (with_reducible exact tree_open.mono _ _ _)
   | (with_reducible exact LeO.refl _)
   | (with_reducible exact LeO.none _)
   | (with_reducible refine LeO.ite ?_ ?_)
   | (with_reducible refine LeO.bind ?_ (fun _ => ?_))
   | exact tree_open.mono _ _ _
   | exact LeO.none _
   | refine LeO.ite ?_ ?_
   | refine LeO.bind ?_ (fun _ => ?_)
set_option maxHeartbeats 8000000 in
set_option maxRecDepth 100000 in
theorem tree_Right.calls (k : Nat) (A0_0 : Option Addr) (c0_0 : Nat) (l0_0 : List (S69)) (a0_1 : Int) (r : Bool) (w : World) (hr0_0 : Kd.C k69 w A0_0 l0_0.length l0_0) (hc0_0 : l0_0.length ≤ c0_0) (h : tree_Right.f k l0_0 a0_1 = some r) :
  Calls Try.prog 36 #[.agg #[.slice A0_0 l0_0.length c0_0, .int .i64 a0_1]] w fun e w' => e = .returned (.bool r) ∧ Below w.heap.size w w' := by
 have hu46 := Try.underlying46
 have hfd104_1 := fun (w : World) (c0 c1 c2 : Value) => (by kernel_rfl : (Instr.field 104 (.agg #[c0, c1, c2]) 1).run Try.prog w = .ok c2 w)
 have HR0_0 := Aside0.mk hr0_0
 have HC0_0 := Aside0.mk hc0_0
 clear hr0_0 hc0_0
 have HB := Aside0.mk (Below.refl w.heap.size w)
 have H : ((tree_open.f k l0_0 a0_1).bind fun bt266 => (some bt266.2.2)) = some r := h
 clear h
 replace H := Option.bind_eq_some_iff.mp H
 obtain ⟨⟨t266, t269, t270⟩, A20, H⟩ := H
 replace H : (some t270) = some r := H
 have A2 := Aside0.mk A20
 clear A20
 obtain rfl := Option.some.inj H
 go_enter Try.func36, Try.ntmps36
 go_wp2_with (first | ((with_reducible refine gate_dst (N := 1) rfl ?_); refine be_ (N := 1) (cs := #[.slice A0_0 l0_0.length c0_0, .int .i64 a0_1]) (t := 46) (h := ?_); intro gb265 hg w3 hbox hb; have BK265 := Aside0.mk (hbox); have GW265 := gw_ HB hg; have GE265 := gw_ HB hg; replace HB := bs_ HB hb; clear hb hbox hg; obtain ⟨hcz4_0, hcz4_1, hfz4_0, hfz4_1⟩ := bc2_ BK265) | ((with_reducible refine gate_callee (f := 79) rfl ?_); refine ge_ (some 4) rfl rfl Try.func79 (by kernel_rfl) rfl #[.agg #[.slice A0_0 l0_0.length c0_0, .int .i64 a0_1]] rfl (h := ?_); (with_reducible refine (tree_open.calls k (fun k_ => k_ < w.heap.size) _ _ l0_0 a0_1 t266 t269 t270 _ ?side1 A2.out).mono ?_); (case side1 => exact Kd.V_mk HC0_0.out (Kd.F_below (Kd.C_F k69_heap HR0_0.out) (hb_ HB))); rintro e w5 ⟨v267, rfl, ho0, hb⟩; refine ⟨_, rfl, ?_⟩; have HO268 := Aside0.mk (Kd.V_lower (Kd.V_mono (ok' := fun k_ => k_ ≠ gb265) ho0 (fun k_ hk_ => Or.elim hk_ (fun hs_ => fun e_ => Nat.not_le.2 hs_ (by rw [e_]; exact GW265.out)) (fun hn_ => (Kd.freshB (g := gb265) (o := .cells #[.slice A0_0 l0_0.length c0_0, .int .i64 a0_1] 46 (0, 0)) (bw_ BK265.out) k_ hn_)))) (below_size (hb_ HB))); replace BK265 := bb_ BK265 hb; replace HB := bs_ HB hb; (try clear hb); (try clear hb2); (try clear hk); (try clear hi); (try clear ho0)))
 go_ret
 exact ⟨er_, hb_ HB⟩

end Go.Proofs.Ytkiokimpblimcaa.PTreeAdds
