/- Of the law calamus/calamuslaw11.TreeGoes: what each function that it reaches tells, as a plain Lean function with a proof that the call comes to it; the row out of that. By a program of this repo (wip/tpl/own_print.py). Conditions: none but the row's own. -/
import Derived.Test.YtkiokimpblimcaaOTreeGoesx0
import Derived.Test.YtkiokimpblimcaaOTreeGoesx6
import Derived.Test.YtkiokimpblimcaaOTreeGoesx7
import Derived.Test.YtkiokimpblimcaaOTreeGoesx9
import Derived.Test.YtkiokimpblimcaaOTreeGoesx12
import Derived.Test.YtkiokimpblimcaaOTreeGoesx13
namespace Go.Proofs.Ytkiokimpblimcaa.PTreeGoes
open Go.RowKit Go.Proofs.YtkiokimpblimcaaW.PrintWords Go.Proofs.YtkiokimpblimcaaW.PrintLast Go.Proofs.YtkiokimpblimcaaW.PrintMore
attribute [local go_sem] max2_int min2_int max_two min_two max_three min_three max_four min_four   -- for this text's walks alone
set_option linter.unusedVariables false
set_option linter.unusedSimpArgs false

/-! ### calamusref11_To: function 54 -/
def calamusref11_To.l0 : Nat → Int → List Int → Int → List (S69) → Int → Option ((List (S69)) × Int × Int)
 | 0, _, _, _, _, _ => none
 | k + 1, x1, x9, x10, x325000, x325001 => if x10 < (x325000.length : Int) then ((calamusref11_on.f k x325000 x325001 x10 x1).bind fun t333 => (if t333 = true then (if x9.length < 17592186044416 then (calamusref11_To.l0 k x1 (x9 ++ [x10]) (wrap64 (x10 + 1)) x325000 x325001) else (none)) else (calamusref11_To.l0 k x1 x9 (wrap64 (x10 + 1)) x325000 x325001))) else ((calamusref11_with.f k x325000 x325001 x9 x1).bind fun bt337 => (some (bt337.1, bt337.2, 0)))
def calamusref11_To.f (k : Nat) (l0_0 : List (S69)) (a0_1 : Int) (a1 : Int) : Option ((List (S69)) × Int × Int) := (calamusref11_Path.f k l0_0 a0_1 a1).bind fun bt326 => (if bt326.2.2 = 0 then (calamusref11_To.l0 k a1 ([] : List Int) 1 l0_0 a0_1) else (some (([] : List (S69)), 0, bt326.2.2)))
theorem calamusref11_To.mono_l : ∀ k, (∀ y0 y1 y2 y3 y4, LeO (calamusref11_To.l0 k y0 y1 y2 y3 y4) (calamusref11_To.l0 (k + 1) y0 y1 y2 y3 y4))
 | 0 => fun _ _ _ _ _ r h => by simp [calamusref11_To.l0] at h
 | k + 1 => by
  have ih0 := calamusref11_To.mono_l k
  ·intro y0 y1 y2 y3 y4
   unfold calamusref11_To.l0
   repeat' first
   | (with_reducible exact ih0 _ _ _ _ _)
   | (with_reducible exact calamusref11_Path.mono _ _ _ _)
   | (with_reducible exact calamusref11_on.mono _ _ _ _ _)
   | (with_reducible exact calamusref11_with.mono _ _ _ _ _)
   | (with_reducible exact LeO.refl _)
   | (with_reducible exact LeO.none _)
   | (with_reducible refine LeO.ite ?_ ?_)
   | (with_reducible refine LeO.bind ?_ (fun _ => ?_))
   | exact ih0 _ _ _ _ _
   | exact calamusref11_Path.mono _ _ _ _
   | exact calamusref11_on.mono _ _ _ _ _
   | exact calamusref11_with.mono _ _ _ _ _
   | exact LeO.none _
   | refine LeO.ite ?_ ?_
   | refine LeO.bind ?_ (fun _ => ?_)
theorem calamusref11_To.mono : ∀ a0 a1 a2 k, LeO (calamusref11_To.f k a0 a1 a2) (calamusref11_To.f (k + 1) a0 a1 a2) := by
 intro a0 a1 a2 k
 have ih0 := calamusref11_To.mono_l k
 unfold calamusref11_To.f
 repeat' first
   | (with_reducible exact ih0 _ _ _ _ _)
   | (with_reducible exact calamusref11_Path.mono _ _ _ _)
   | (with_reducible exact calamusref11_on.mono _ _ _ _ _)
   | (with_reducible exact calamusref11_with.mono _ _ _ _ _)
   | (with_reducible exact LeO.refl _)
   | (with_reducible exact LeO.none _)
   | (with_reducible refine LeO.ite ?_ ?_)
   | (with_reducible refine LeO.bind ?_ (fun _ => ?_))
   | exact ih0 _ _ _ _ _
   | exact calamusref11_Path.mono _ _ _ _
   | exact calamusref11_on.mono _ _ _ _ _
   | exact calamusref11_with.mono _ _ _ _ _
   | exact LeO.none _
   | refine LeO.ite ?_ ?_
   | refine LeO.bind ?_ (fun _ => ?_)
set_option maxHeartbeats 8000000 in
set_option maxRecDepth 100000 in
theorem calamusref11_To.calls (k : Nat) (A0_0 : Option Addr) (c0_0 : Nat) (l0_0 : List (S69)) (a0_1 : Int) (a1 : Int) (r1 : List (S69)) (r2 : Int) (r3 : Int) (w : World) (hr0_0 : Kd.C k69 w A0_0 l0_0.length l0_0) (hc0_0 : l0_0.length ≤ c0_0) (h : calamusref11_To.f k l0_0 a0_1 a1 = some (r1, r2, r3)) :
  Calls Try.prog 54 #[.agg #[.slice A0_0 l0_0.length c0_0, .int .i64 a0_1], .int .i64 a1] w fun e w' => ∃ v0_ : Value, e = .returned (.tuple #[.agg #[v0_, .int .i64 r2], .int .i64 r3]) ∧ Kd.R k69 69 w' w.heap.size (fun _ => True) v0_ r1 ∧ Below w.heap.size w w' := by
 have hu46 := Try.underlying46
 have HR0_0 := Aside0.mk hr0_0
 have HC0_0 := Aside0.mk hc0_0
 clear hr0_0 hc0_0
 have HB := Aside0.mk (Below.refl w.heap.size w)
 have H : ((calamusref11_Path.f k l0_0 a0_1 a1).bind fun bt326 => (if bt326.2.2 = 0 then (calamusref11_To.l0 k a1 ([] : List Int) 1 l0_0 a0_1) else (some (([] : List (S69)), 0, bt326.2.2)))) = some (r1, r2, r3) := h
 clear h
 replace H := Option.bind_eq_some_iff.mp H
 obtain ⟨⟨t326, t329, t332⟩, A30, H⟩ := H
 replace H : (if t332 = 0 then (calamusref11_To.l0 k a1 ([] : List Int) 1 l0_0 a0_1) else (some (([] : List (S69)), 0, t332))) = some (r1, r2, r3) := H
 have A3 := Aside0.mk A30
 clear A30
 by_cases c4 : t332 = 0
 ·rw [if_pos c4] at H
  have c4b0 : (t332 == 0) = true := beq_iff_eq.mpr c4
  have c4b1 : (t332 != 0) = false := bne_eq_false_iff_eq.mpr c4
  clear c4
  have H' := Aside0.mk H
  clear H
  go_enter Try.func54, Try.ntmps54
  go_wp2_with (first | ((with_reducible refine gate_dst (N := 2) rfl ?_); refine be_ (N := 2) (cs := #[.slice A0_0 l0_0.length c0_0, .int .i64 a0_1]) (t := 46) (h := ?_); intro gb324 hg w5 hbox hb; have BK324 := Aside0.mk (hbox); have GW324 := gw_ HB hg; have GE324 := gw_ HB hg; replace HB := bs_ HB hb; clear hb hbox hg) | ((with_reducible refine gate_dst (N := 4) rfl ?_); refine be_ (N := 4) (cs := #[.slice none 0 0, .int .i64 0]) (t := 46) (h := ?_); intro gb325 hg w6 hbox hb; have BK325 := Aside0.mk (hbox); have GW325 := gw_ HB hg; have GE325 := gw_ HB hg; have NB324_325 := ne_ BK324 hg; have NB325_324 := en_ BK324 hg; replace BK324 := bb_ BK324 hb; replace HB := bs_ HB hb; clear hb hbox hg; have hnb7 := NB324_325.out; have hnc7 := NB325_324.out; obtain ⟨hcz8_0, hcz8_1, hfz8_0, hfz8_1⟩ := bc2_ BK324) | ((with_reducible refine gate_callee (f := 52) rfl ?_); refine ge_ (some 14) rfl rfl Try.func52 (by kernel_rfl) rfl #[.agg #[.slice A0_0 l0_0.length c0_0, .int .i64 a0_1], .int .i64 a1] rfl (h := ?_); (with_reducible refine (calamusref11_Path.calls k _ _ l0_0 a0_1 a1 t326 t329 t332 _ ?side1 ?side2 A3.out).mono ?_); (case side1 => exact cw_ (Kd.C_below HR0_0.out HB.out)); (case side2 => exact HC0_0.out); rintro e w9 ⟨v327, v330, rfl, ho0, ho1, hb⟩; refine ⟨_, rfl, ?_⟩; have HO328 := Aside0.mk (Kd.R_lower ho0 (below_size (hb_ HB))); have HO331 := Aside0.mk (Kd.R_lower ho1 (below_size (hb_ HB))); replace BK324 := bb_ BK324 hb; replace BK325 := bb_ BK325 hb; replace HB := bs_ HB hb; (try clear hb); (try clear hb2); (try clear hk); (try clear hi); (try clear ho0); (try clear ho1)))
  go_loopg [9, 10] k (fun kq v9 v10 w' => ∃ (x9_1 : List Int) (x10_1 : Int), v10 = .int .i64 x10_1 ∧ Aside0 (calamusref11_To.l0 kq a1 x9_1 x10_1 l0_0 a0_1 = some (r1, r2, r3)) ∧ Aside0 (kq ≤ k) ∧ Aside0 (Kd.R (Kd.int .i64) 3 w' w.heap.size (fun _ => True) v9 x9_1) ∧ Aside0 (w'.heap[gb324]? = some (.cells #[(.slice A0_0 l0_0.length c0_0), .int .i64 a0_1] 46 (0, 0))) ∧ Aside0 (w'.heap[gb325]? = some (.cells #[(.slice none 0 0), .int .i64 0] 46 (0, 0))) ∧ Aside0 (Below w.heap.size w w'))
  case atStart => exact ⟨(([] : List Int)), (1), es_, H', ⟨Nat.le_refl _⟩, ⟨by first | exact Kd.R_nil _ _ _ _ _ | exact Kd.N_nil _ _ _ _ _ | exact Kd.V_nil _ _ _ _ _ | exact Kd.Q_nil _ _ _ _ _ | exact Kd.S_nil _ _ _ _ _⟩, ⟨bw_ BK324.out⟩, ⟨bw_ BK325.out⟩, ⟨hb_ HB⟩⟩
  case round =>
   clear H'
   try clear c4
   try clear c4b0
   try clear c4b1
   try clear hcz8_0
   try clear hcz8_1
   try clear hfz8_0
   try clear hfz8_1
   obtain ⟨x9_1, x10_1, rfl, HA, HK1, HO_9, BK324, BK325, HB⟩ := hrel
   cases gk with
   | zero => exact absurd HA.out (by simp [calamusref11_To.l0])
   | succ k1 =>
    have H := HA.out
    clear HA
    simp only [calamusref11_To.l0] at H
    by_cases c10 : x10_1 < (l0_0.length : Int)
    ·rw [if_pos c10] at H
     have c10b0 : decide (x10_1 < (l0_0.length : Int)) = true := decide_eq_true c10
     clear c10
     replace H := Option.bind_eq_some_iff.mp H
     obtain ⟨t333, A110, H⟩ := H
     replace H : (if t333 = true then (if x9_1.length < 17592186044416 then (calamusref11_To.l0 k1 a1 (x9_1 ++ [x10_1]) (wrap64 (x10_1 + 1)) l0_0 a0_1) else (none)) else (calamusref11_To.l0 k1 a1 x9_1 (wrap64 (x10_1 + 1)) l0_0 a0_1)) = some (r1, r2, r3) := H
     have A11 := Aside0.mk A110
     clear A110
     by_cases c12 : t333 = true
     ·subst c12
      have H1 : (if x9_1.length < 17592186044416 then (calamusref11_To.l0 k1 a1 (x9_1 ++ [x10_1]) (wrap64 (x10_1 + 1)) l0_0 a0_1) else (none)) = some (r1, r2, r3) := by rw [if_pos rfl] at H; exact H
      clear H
      have H := H1
      clear H1
      by_cases c13 : x9_1.length < 17592186044416
      ·rw [if_pos c13] at H
       have LMc13 := Aside0.mk c13
       clear c13
       obtain ⟨y334, hy334⟩ : ∃ y_ : List Int, y_ = (x9_1 ++ [x10_1]) := ⟨_, rfl⟩
       replace H : (calamusref11_To.l0 k1 a1 y334 (wrap64 (x10_1 + 1)) l0_0 a0_1) = some (r1, r2, r3) := th_ H hy334
       have Ny334 := Aside0.mk hy334
       clear hy334
       have H' := Aside0.mk H
       clear H
       have hnb14 := NB324_325.out
       have hnc14 := NB325_324.out
       obtain ⟨hcz15_0, hcz15_1, hfz15_0, hfz15_1⟩ := bc2_ BK324
       go_wp2_with (first | ((with_reducible refine gate_callee (f := 89) rfl ?_); refine ge_ (some 32) rfl rfl Try.func89 (by kernel_rfl) rfl #[.agg #[.slice A0_0 l0_0.length c0_0, .int .i64 a0_1], .int .i64 x10_1, .int .i64 a1] rfl (h := ?_); (with_reducible refine (calamusref11_on.calls k1 _ _ l0_0 a0_1 x10_1 a1 true _ ?side1 ?side2 A11.out).mono ?_); (case side1 => exact cw_ (Kd.C_below HR0_0.out HB.out)); (case side2 => exact HC0_0.out); rintro e w16 ⟨rfl, hb⟩; refine ⟨_, rfl, ?_⟩; replace HO_9 := Aside0.mk (Kd.R_below (rw_ HO_9.out) hb); replace BK324 := bb_ BK324 hb; replace BK325 := bb_ BK325 hb; replace HB := bs_ HB hb; (try clear hb); (try clear hb2); (try clear hk); (try clear hi)) | ((with_reducible refine gate_builtin (b := .append) (xs := #[.tmp 33, .tmp 35]) rfl ?_); at_builtin; refine Kd.R_append (Kd.int .i64) (w0 := w) w.heap.size rfl (.tmp 33) (.tmp 35) 59 3 (.int .i64 0) 8 rfl Try.underlying59 info3 rfl (by decide) (by omega) u9 x9_1 x10_1 [.int .i64 x10_1] (fun _ => True) (fun _ => False) rfl rfl ?aP (fun _ hk => hk.elim) ?aF ?aO ?aB ?aS ?aL ?_; (case aP => exact rfl); (case aB => exact (hb_ HB)); (case aF => exact (fun _ _ => trivial)); (case aO => exact (rw_ HO_9.out)); (case aS => exact (below_size (hb_ HB))); (case aL => have := LMc13.out; omega); intro v335 w17 ho hb hg hat; rw [← Ny334.out] at ho; have n0_ := Aside0.mk (blk_grown (g := gb324) (o := .cells #[.slice A0_0 l0_0.length c0_0, .int .i64 a0_1] 46 (0, 0)) (bw_ BK324.out) hg (Kd.R_ne HO_9.out BK324.out (by decide))); have n1_ := Aside0.mk (blk_grown (g := gb325) (o := .cells #[.slice none 0 0, .int .i64 0] 46 (0, 0)) (bw_ BK325.out) hg (Kd.R_ne HO_9.out BK325.out (by decide))); have n2_ := Aside0.mk (hb); have n3_ := Aside0.mk (ho); clear BK324; clear BK325; clear HB; clear HO_9; have BK324 := n0_; have BK325 := n1_; have HB := n2_; have HO336 := n3_; clear n0_ n1_ n2_ n3_; clear ho hb hg hat))
       go_roundg k1
       case measure => have := HK1.out; omega
       case rel => exact ⟨(y334), (wrap64 (x10_1 + 1)), es_, H', ⟨by have := HK1.out; omega⟩, ⟨rw_ HO336.out⟩, ⟨bw_ BK324.out⟩, ⟨bw_ BK325.out⟩, ⟨hb_ HB⟩⟩
      ·rw [if_neg c13] at H
       exact absurd H (by simp)
     ·replace c12 := Bool.eq_false_iff.mpr c12
      subst c12
      have H1 : (calamusref11_To.l0 k1 a1 x9_1 (wrap64 (x10_1 + 1)) l0_0 a0_1) = some (r1, r2, r3) := by rw [if_neg (show ¬ (false = true) by decide)] at H; exact H
      clear H
      have H := H1
      clear H1
      have H' := Aside0.mk H
      clear H
      have hnb18 := NB324_325.out
      have hnc18 := NB325_324.out
      obtain ⟨hcz19_0, hcz19_1, hfz19_0, hfz19_1⟩ := bc2_ BK324
      go_wp2_with (first | ((with_reducible refine gate_callee (f := 89) rfl ?_); refine ge_ (some 32) rfl rfl Try.func89 (by kernel_rfl) rfl #[.agg #[.slice A0_0 l0_0.length c0_0, .int .i64 a0_1], .int .i64 x10_1, .int .i64 a1] rfl (h := ?_); (with_reducible refine (calamusref11_on.calls k1 _ _ l0_0 a0_1 x10_1 a1 false _ ?side1 ?side2 A11.out).mono ?_); (case side1 => exact cw_ (Kd.C_below HR0_0.out HB.out)); (case side2 => exact HC0_0.out); rintro e w20 ⟨rfl, hb⟩; refine ⟨_, rfl, ?_⟩; replace HO_9 := Aside0.mk (Kd.R_below (rw_ HO_9.out) hb); replace BK324 := bb_ BK324 hb; replace BK325 := bb_ BK325 hb; replace HB := bs_ HB hb; (try clear hb); (try clear hb2); (try clear hk); (try clear hi)))
      go_roundg k1
      case measure => have := HK1.out; omega
      case rel => exact ⟨(x9_1), (wrap64 (x10_1 + 1)), es_, H', ⟨by have := HK1.out; omega⟩, ⟨rw_ HO_9.out⟩, ⟨bw_ BK324.out⟩, ⟨bw_ BK325.out⟩, ⟨hb_ HB⟩⟩
    ·rw [if_neg c10] at H
     have c10b0 : decide (x10_1 < (l0_0.length : Int)) = false := decide_eq_false c10
     clear c10
     replace H := Option.bind_eq_some_iff.mp H
     obtain ⟨⟨t337, t340⟩, A210, H⟩ := H
     replace H : (some (t337, t340, 0)) = some (r1, r2, r3) := H
     have A21 := Aside0.mk A210
     clear A210
     simp only [Option.some.injEq, Prod.mk.injEq] at H
     obtain ⟨rfl, rfl, rfl⟩ := H
     have hnb22 := NB324_325.out
     have hnc22 := NB325_324.out
     obtain ⟨hcz23_0, hcz23_1, hfz23_0, hfz23_1⟩ := bc2_ BK324
     obtain ⟨Ao24, co24, eo24⟩ := Kd.R_slice HO_9.out
     subst eo24
     go_wp2_with (first | ((with_reducible refine gate_callee (f := 81) rfl ?_); refine ge_ (some 40) rfl rfl Try.func81 (by kernel_rfl) rfl #[.agg #[.slice A0_0 l0_0.length c0_0, .int .i64 a0_1], .slice Ao24 x9_1.length co24, .int .i64 a1] rfl (h := ?_); (with_reducible refine (calamusref11_with.calls k1 _ _ l0_0 a0_1 _ _ x9_1 a1 t337 t340 _ ?side1 ?side2 ?side3 ?side4 A21.out).mono ?_); (case side1 => exact cw_ (Kd.C_below HR0_0.out HB.out)); (case side2 => exact HC0_0.out); (case side3 => repeat (first | exact (Kd.R_reads' HO_9.out).2.2 | (with_reducible refine Kd.C_alloc ?_ _) | (with_reducible refine Kd.C_drewN ?_ _) | (with_reducible refine Kd.C_drew ?_))); (case side4 => exact (Kd.R_reads' HO_9.out).2.1); rintro e w25 ⟨v338, rfl, ho0, hb⟩; refine ⟨_, rfl, ?_⟩; have HO339 := Aside0.mk (Kd.R_lower ho0 (below_size (hb_ HB))); replace HO_9 := Aside0.mk (Kd.R_below (rw_ HO_9.out) hb); replace BK324 := bb_ BK324 hb; replace BK325 := bb_ BK325 hb; replace HB := bs_ HB hb; (try clear hb); (try clear hb2); (try clear hk); (try clear hi); (try clear ho0); obtain ⟨Ao26, co26, eo26⟩ := Kd.R_slice HO339.out; subst eo26; obtain ⟨hcz27_0, hcz27_1, hfz27_0, hfz27_1⟩ := bc2_ BK325))
     refine bodyPost_ret (results_ct rfl _ _ gb325 46 #[.slice Ao26 t337.length co26, .int .i64 t340] (0, 0) _ rfl (bp_ BK325.out) Try.underlying46 rfl (by kernel_rfl)) rfl ?_
     exact ⟨_, er_, by (with_reducible repeat (first | apply Kd.R_alloc | apply Kd.R_drewN | apply Kd.R_drew)); exact Kd.R_mono (rf_ (Kd.R_types HO339.out BK325.out (by decide)) (fun _ hk => hk.2)) (fun _ hk => trivial), hb_ HB⟩
 ·rw [if_neg c4] at H
  have c4b0 : (t332 == 0) = false := beq_eq_false_iff_ne.mpr c4
  have c4b1 : (t332 != 0) = true := bne_iff_ne.mpr c4
  simp only [Option.some.injEq, Prod.mk.injEq] at H
  obtain ⟨rfl, rfl, rfl⟩ := H
  go_enter Try.func54, Try.ntmps54
  go_wp2_with (first | ((with_reducible refine gate_dst (N := 2) rfl ?_); refine be_ (N := 2) (cs := #[.slice A0_0 l0_0.length c0_0, .int .i64 a0_1]) (t := 46) (h := ?_); intro gb324 hg w28 hbox hb; have BK324 := Aside0.mk (hbox); have GW324 := gw_ HB hg; have GE324 := gw_ HB hg; replace HB := bs_ HB hb; clear hb hbox hg) | ((with_reducible refine gate_dst (N := 4) rfl ?_); refine be_ (N := 4) (cs := #[.slice none 0 0, .int .i64 0]) (t := 46) (h := ?_); intro gb325 hg w29 hbox hb; have BK325 := Aside0.mk (hbox); have GW325 := gw_ HB hg; have GE325 := gw_ HB hg; have NB324_325 := ne_ BK324 hg; have NB325_324 := en_ BK324 hg; replace BK324 := bb_ BK324 hb; replace HB := bs_ HB hb; clear hb hbox hg; have hnb30 := NB324_325.out; have hnc30 := NB325_324.out; obtain ⟨hcz31_0, hcz31_1, hfz31_0, hfz31_1⟩ := bc2_ BK324) | ((with_reducible refine gate_callee (f := 52) rfl ?_); refine ge_ (some 14) rfl rfl Try.func52 (by kernel_rfl) rfl #[.agg #[.slice A0_0 l0_0.length c0_0, .int .i64 a0_1], .int .i64 a1] rfl (h := ?_); (with_reducible refine (calamusref11_Path.calls k _ _ l0_0 a0_1 a1 t326 t329 t332 _ ?side1 ?side2 A3.out).mono ?_); (case side1 => exact cw_ (Kd.C_below HR0_0.out HB.out)); (case side2 => exact HC0_0.out); rintro e w32 ⟨v327, v330, rfl, ho0, ho1, hb⟩; refine ⟨_, rfl, ?_⟩; have HO328 := Aside0.mk (Kd.R_lower ho0 (below_size (hb_ HB))); have HO331 := Aside0.mk (Kd.R_lower ho1 (below_size (hb_ HB))); replace BK324 := bb_ BK324 hb; replace BK325 := bb_ BK325 hb; replace HB := bs_ HB hb; (try clear hb); (try clear hb2); (try clear hk); (try clear hi); (try clear ho0); (try clear ho1); obtain ⟨hcz33_0, hcz33_1, hfz33_0, hfz33_1⟩ := bc2_ BK325))
  refine bodyPost_ret (results_ct rfl _ _ gb325 46 #[.slice none 0 0, .int .i64 0] (0, 0) _ rfl (bp_ BK325.out) Try.underlying46 rfl (by kernel_rfl)) rfl ?_
  exact ⟨_, er_, by first | exact Kd.R_nil _ _ _ _ _ | exact Kd.N_nil _ _ _ _ _ | exact Kd.V_nil _ _ _ _ _ | exact Kd.Q_nil _ _ _ _ _ | exact Kd.S_nil _ _ _ _ _, hb_ HB⟩

/-! ### calamuslaw11_TreeGoes: function 10 -/
def calamuslaw11_TreeGoes.f (k : Nat) (l0_0 : List (S69)) (a0_1 : Int) (a1 : Int) : Option (Bool) := if (l0_0.length : Int) > 150 then ((calamuslaw11_lives.f k).bind fun t342 => (some t342)) else ((tree_Path.f k l0_0 a0_1 a1).bind fun bt343 => ((calamusref11_Path.f k l0_0 a0_1 a1).bind fun bt350 => ((tree_To.f k l0_0 a0_1 a1).bind fun bt357 => ((calamusref11_To.f k l0_0 a0_1 a1).bind fun bt363 => ((calamusref01_Same.f k bt343.1 bt350.1).bind fun t369 => (if t369 = true then ((calamusref01_Same.f k bt343.2.1 bt350.2.1).bind fun t370 => (if t370 = true then (if bt343.2.2 = bt350.2.2 then ((calamusref11_Same.f k bt357.1 bt357.2.1 bt363.1 bt363.2.1).bind fun t371 => (if t371 = true then (if bt357.2.2 = bt363.2.2 then ((calamuslaw11_lives.f k).bind fun t372 => (some t372)) else (some false)) else (some false))) else (some false)) else (some false))) else (some false)))))))
theorem calamuslaw11_TreeGoes.mono : ∀ a0 a1 a2 k, LeO (calamuslaw11_TreeGoes.f k a0 a1 a2) (calamuslaw11_TreeGoes.f (k + 1) a0 a1 a2) := by
 intro a0 a1 a2 k
 unfold calamuslaw11_TreeGoes.f
 repeat' first
   | (with_reducible exact calamuslaw11_lives.mono _)
   | (with_reducible exact calamusref01_Same.mono _ _ _)
   | (with_reducible exact calamusref11_Path.mono _ _ _ _)
   | (with_reducible exact calamusref11_Same.mono _ _ _ _ _)
   | (with_reducible exact calamusref11_To.mono _ _ _ _)
   | (with_reducible exact tree_Path.mono _ _ _ _)
   | (with_reducible exact tree_To.mono _ _ _ _)
   | (with_reducible exact LeO.refl _)
   | (with_reducible exact LeO.none _)
   | (with_reducible refine LeO.ite ?_ ?_)
   | (with_reducible refine LeO.bind ?_ (fun _ => ?_))
   | exact calamuslaw11_lives.mono _
   | exact calamusref01_Same.mono _ _ _
   | exact calamusref11_Path.mono _ _ _ _
   | exact calamusref11_Same.mono _ _ _ _ _
   | exact calamusref11_To.mono _ _ _ _
   | exact tree_Path.mono _ _ _ _
   | exact tree_To.mono _ _ _ _
   | exact LeO.none _
   | refine LeO.ite ?_ ?_
   | refine LeO.bind ?_ (fun _ => ?_)
set_option maxHeartbeats 8000000 in
set_option maxRecDepth 100000 in
theorem calamuslaw11_TreeGoes.calls (k : Nat) (A0_0 : Option Addr) (c0_0 : Nat) (l0_0 : List (S69)) (a0_1 : Int) (a1 : Int) (r : Bool) (w : World) (hr0_0 : Kd.C k69 w A0_0 l0_0.length l0_0) (hc0_0 : l0_0.length ≤ c0_0) (h : calamuslaw11_TreeGoes.f k l0_0 a0_1 a1 = some r) (hr_ : r = true := by rfl) :
  Calls Try.prog 10 #[.agg #[.slice A0_0 l0_0.length c0_0, .int .i64 a0_1], .int .i64 a1] w fun e w' => e = .returned (.bool r) ∧ Below w.heap.size w w' := by
 have hu46 := Try.underlying46
 have HR0_0 := Aside0.mk hr0_0
 have HC0_0 := Aside0.mk hc0_0
 clear hr0_0 hc0_0
 have HB := Aside0.mk (Below.refl w.heap.size w)
 have H : (if (l0_0.length : Int) > 150 then ((calamuslaw11_lives.f k).bind fun t342 => (some t342)) else ((tree_Path.f k l0_0 a0_1 a1).bind fun bt343 => ((calamusref11_Path.f k l0_0 a0_1 a1).bind fun bt350 => ((tree_To.f k l0_0 a0_1 a1).bind fun bt357 => ((calamusref11_To.f k l0_0 a0_1 a1).bind fun bt363 => ((calamusref01_Same.f k bt343.1 bt350.1).bind fun t369 => (if t369 = true then ((calamusref01_Same.f k bt343.2.1 bt350.2.1).bind fun t370 => (if t370 = true then (if bt343.2.2 = bt350.2.2 then ((calamusref11_Same.f k bt357.1 bt357.2.1 bt363.1 bt363.2.1).bind fun t371 => (if t371 = true then (if bt357.2.2 = bt363.2.2 then ((calamuslaw11_lives.f k).bind fun t372 => (some t372)) else (some false)) else (some false))) else (some false)) else (some false))) else (some false)))))))) = some r := h
 clear h
 by_cases c3 : (l0_0.length : Int) > 150
 ·rw [if_pos c3] at H
  have c3b0 : decide (150 < (l0_0.length : Int)) = true := decide_eq_true c3
  have c3b1 : decide (150 < l0_0.length) = true := decide_eq_true (by omega)
  clear c3
  replace H := Option.bind_eq_some_iff.mp H
  obtain ⟨t342, A40, H⟩ := H
  replace H : (some t342) = some r := H
  have A4 := Aside0.mk A40
  clear A40
  obtain rfl := Option.some.inj H
  go_enter Try.func10, Try.ntmps10
  go_wp2_with (first | ((with_reducible refine gate_dst (N := 2) rfl ?_); refine be_ (N := 2) (cs := #[.slice A0_0 l0_0.length c0_0, .int .i64 a0_1]) (t := 46) (h := ?_); intro gb341 hg w5 hbox hb; have BK341 := Aside0.mk (hbox); have GW341 := gw_ HB hg; have GE341 := gw_ HB hg; replace HB := bs_ HB hb; clear hb hbox hg; obtain ⟨hcz6_0, hcz6_1, hfz6_0, hfz6_1⟩ := bc2_ BK341) | ((with_reducible refine gate_callee (f := 33) rfl ?_); refine ge_ (some 19) rfl rfl Try.func33 (by kernel_rfl) rfl #[] rfl (h := ?_); (with_reducible refine (calamuslaw11_lives.calls k  t342 _ A4.out).mono ?_); rintro e w7 ⟨rfl, hb⟩; refine ⟨_, rfl, ?_⟩; replace BK341 := bb_ BK341 hb; replace HB := bs_ HB hb; (try clear hb); (try clear hb2); (try clear hk); (try clear hi)))
  go_ret
  exact ⟨er_, hb_ HB⟩
 ·rw [if_neg c3] at H
  have c3b0 : decide (150 < (l0_0.length : Int)) = false := decide_eq_false c3
  have c3b1 : decide (150 < l0_0.length) = false := decide_eq_false (by omega)
  clear c3
  replace H := Option.bind_eq_some_iff.mp H
  obtain ⟨⟨t343, t346, t349⟩, A80, H⟩ := H
  replace H : ((calamusref11_Path.f k l0_0 a0_1 a1).bind fun bt350 => ((tree_To.f k l0_0 a0_1 a1).bind fun bt357 => ((calamusref11_To.f k l0_0 a0_1 a1).bind fun bt363 => ((calamusref01_Same.f k t343 bt350.1).bind fun t369 => (if t369 = true then ((calamusref01_Same.f k t346 bt350.2.1).bind fun t370 => (if t370 = true then (if t349 = bt350.2.2 then ((calamusref11_Same.f k bt357.1 bt357.2.1 bt363.1 bt363.2.1).bind fun t371 => (if t371 = true then (if bt357.2.2 = bt363.2.2 then ((calamuslaw11_lives.f k).bind fun t372 => (some t372)) else (some false)) else (some false))) else (some false)) else (some false))) else (some false)))))) = some r := H
  have A8 := Aside0.mk A80
  clear A80
  replace H := Option.bind_eq_some_iff.mp H
  obtain ⟨⟨t350, t353, t356⟩, A90, H⟩ := H
  replace H : ((tree_To.f k l0_0 a0_1 a1).bind fun bt357 => ((calamusref11_To.f k l0_0 a0_1 a1).bind fun bt363 => ((calamusref01_Same.f k t343 t350).bind fun t369 => (if t369 = true then ((calamusref01_Same.f k t346 t353).bind fun t370 => (if t370 = true then (if t349 = t356 then ((calamusref11_Same.f k bt357.1 bt357.2.1 bt363.1 bt363.2.1).bind fun t371 => (if t371 = true then (if bt357.2.2 = bt363.2.2 then ((calamuslaw11_lives.f k).bind fun t372 => (some t372)) else (some false)) else (some false))) else (some false)) else (some false))) else (some false))))) = some r := H
  have A9 := Aside0.mk A90
  clear A90
  replace H := Option.bind_eq_some_iff.mp H
  obtain ⟨⟨t357, t360, t361⟩, A100, H⟩ := H
  replace H : ((calamusref11_To.f k l0_0 a0_1 a1).bind fun bt363 => ((calamusref01_Same.f k t343 t350).bind fun t369 => (if t369 = true then ((calamusref01_Same.f k t346 t353).bind fun t370 => (if t370 = true then (if t349 = t356 then ((calamusref11_Same.f k t357 t360 bt363.1 bt363.2.1).bind fun t371 => (if t371 = true then (if t361 = bt363.2.2 then ((calamuslaw11_lives.f k).bind fun t372 => (some t372)) else (some false)) else (some false))) else (some false)) else (some false))) else (some false)))) = some r := H
  have A10 := Aside0.mk A100
  clear A100
  replace H := Option.bind_eq_some_iff.mp H
  obtain ⟨⟨t363, t366, t367⟩, A110, H⟩ := H
  replace H : ((calamusref01_Same.f k t343 t350).bind fun t369 => (if t369 = true then ((calamusref01_Same.f k t346 t353).bind fun t370 => (if t370 = true then (if t349 = t356 then ((calamusref11_Same.f k t357 t360 t363 t366).bind fun t371 => (if t371 = true then (if t361 = t367 then ((calamuslaw11_lives.f k).bind fun t372 => (some t372)) else (some false)) else (some false))) else (some false)) else (some false))) else (some false))) = some r := H
  have A11 := Aside0.mk A110
  clear A110
  replace H := Option.bind_eq_some_iff.mp H
  obtain ⟨t369, A120, H⟩ := H
  replace H : (if t369 = true then ((calamusref01_Same.f k t346 t353).bind fun t370 => (if t370 = true then (if t349 = t356 then ((calamusref11_Same.f k t357 t360 t363 t366).bind fun t371 => (if t371 = true then (if t361 = t367 then ((calamuslaw11_lives.f k).bind fun t372 => (some t372)) else (some false)) else (some false))) else (some false)) else (some false))) else (some false)) = some r := H
  have A12 := Aside0.mk A120
  clear A120
  by_cases c13 : t369 = true
  ·subst c13
   have H1 : ((calamusref01_Same.f k t346 t353).bind fun t370 => (if t370 = true then (if t349 = t356 then ((calamusref11_Same.f k t357 t360 t363 t366).bind fun t371 => (if t371 = true then (if t361 = t367 then ((calamuslaw11_lives.f k).bind fun t372 => (some t372)) else (some false)) else (some false))) else (some false)) else (some false))) = some r := by rw [if_pos rfl] at H; exact H
   clear H
   have H := H1
   clear H1
   replace H := Option.bind_eq_some_iff.mp H
   obtain ⟨t370, A140, H⟩ := H
   replace H : (if t370 = true then (if t349 = t356 then ((calamusref11_Same.f k t357 t360 t363 t366).bind fun t371 => (if t371 = true then (if t361 = t367 then ((calamuslaw11_lives.f k).bind fun t372 => (some t372)) else (some false)) else (some false))) else (some false)) else (some false)) = some r := H
   have A14 := Aside0.mk A140
   clear A140
   by_cases c15 : t370 = true
   ·subst c15
    have H1 : (if t349 = t356 then ((calamusref11_Same.f k t357 t360 t363 t366).bind fun t371 => (if t371 = true then (if t361 = t367 then ((calamuslaw11_lives.f k).bind fun t372 => (some t372)) else (some false)) else (some false))) else (some false)) = some r := by rw [if_pos rfl] at H; exact H
    clear H
    have H := H1
    clear H1
    by_cases c16 : t349 = t356
    ·rw [if_pos c16] at H
     have c16b0 : (t349 == t356) = true := beq_iff_eq.mpr c16
     have c16b1 : (t349 != t356) = false := bne_eq_false_iff_eq.mpr c16
     clear c16
     replace H := Option.bind_eq_some_iff.mp H
     obtain ⟨t371, A170, H⟩ := H
     replace H : (if t371 = true then (if t361 = t367 then ((calamuslaw11_lives.f k).bind fun t372 => (some t372)) else (some false)) else (some false)) = some r := H
     have A17 := Aside0.mk A170
     clear A170
     by_cases c18 : t371 = true
     ·subst c18
      have H1 : (if t361 = t367 then ((calamuslaw11_lives.f k).bind fun t372 => (some t372)) else (some false)) = some r := by rw [if_pos rfl] at H; exact H
      clear H
      have H := H1
      clear H1
      by_cases c19 : t361 = t367
      ·rw [if_pos c19] at H
       have c19b0 : (t361 == t367) = true := beq_iff_eq.mpr c19
       have c19b1 : (t361 != t367) = false := bne_eq_false_iff_eq.mpr c19
       clear c19
       replace H := Option.bind_eq_some_iff.mp H
       obtain ⟨t372, A200, H⟩ := H
       replace H : (some t372) = some r := H
       have A20 := Aside0.mk A200
       clear A200
       obtain rfl := Option.some.inj H
       go_enter Try.func10, Try.ntmps10
       go_wp2_with (first | ((with_reducible refine gate_dst (N := 2) rfl ?_); refine be_ (N := 2) (cs := #[.slice A0_0 l0_0.length c0_0, .int .i64 a0_1]) (t := 46) (h := ?_); intro gb341 hg w21 hbox hb; have BK341 := Aside0.mk (hbox); have GW341 := gw_ HB hg; have GE341 := gw_ HB hg; replace HB := bs_ HB hb; clear hb hbox hg; obtain ⟨hcz22_0, hcz22_1, hfz22_0, hfz22_1⟩ := bc2_ BK341) | ((with_reducible refine gate_callee (f := 51) rfl ?_); refine ge_ (some 23) rfl rfl Try.func51 (by kernel_rfl) rfl #[.agg #[.slice A0_0 l0_0.length c0_0, .int .i64 a0_1], .int .i64 a1] rfl (h := ?_); (with_reducible refine (tree_Path.calls k _ _ l0_0 a0_1 a1 t343 t346 t349 _ ?side1 ?side2 A8.out).mono ?_); (case side1 => exact cw_ (Kd.C_below HR0_0.out HB.out)); (case side2 => exact HC0_0.out); rintro e w23 ⟨v344, v347, rfl, ho0, ho1, hb⟩; refine ⟨_, rfl, ?_⟩; have HO345 := Aside0.mk (Kd.R_lower ho0 (below_size (hb_ HB))); have HO348 := Aside0.mk (Kd.R_lower ho1 (below_size (hb_ HB))); replace BK341 := bb_ BK341 hb; replace HB := bs_ HB hb; (try clear hb); (try clear hb2); (try clear hk); (try clear hi); (try clear ho0); (try clear ho1); obtain ⟨hcz24_0, hcz24_1, hfz24_0, hfz24_1⟩ := bc2_ BK341) | ((with_reducible refine gate_callee (f := 52) rfl ?_); refine ge_ (some 30) rfl rfl Try.func52 (by kernel_rfl) rfl #[.agg #[.slice A0_0 l0_0.length c0_0, .int .i64 a0_1], .int .i64 a1] rfl (h := ?_); (with_reducible refine (calamusref11_Path.calls k _ _ l0_0 a0_1 a1 t350 t353 t356 _ ?side1 ?side2 A9.out).mono ?_); (case side1 => exact cw_ (Kd.C_below HR0_0.out HB.out)); (case side2 => exact HC0_0.out); rintro e w25 ⟨v351, v354, rfl, ho0, ho1, hb⟩; refine ⟨_, rfl, ?_⟩; have HO352 := Aside0.mk (Kd.R_lower (Kd.R_new' (Kd.R_new' ho0 (Kd.R_lt (rw_ HO345.out))) (Kd.R_lt (rw_ HO348.out))) (below_size (hb_ HB))); have HO355 := Aside0.mk (Kd.R_lower (Kd.R_new' (Kd.R_new' ho1 (Kd.R_lt (rw_ HO345.out))) (Kd.R_lt (rw_ HO348.out))) (below_size (hb_ HB))); replace HO345 := Aside0.mk (Kd.R_mono (Kd.R_told (Kd.R_told (Kd.R_old (rw_ HO345.out) hb) (Kd.R_base ho0)) (Kd.R_base ho1)) (fun _ h_ => h_.1)); replace HO348 := Aside0.mk (Kd.R_mono (Kd.R_told (Kd.R_told (Kd.R_old (rw_ HO348.out) hb) (Kd.R_base ho0)) (Kd.R_base ho1)) (fun _ h_ => h_.1)); replace BK341 := bb_ BK341 hb; replace HB := bs_ HB hb; (try clear hb); (try clear hb2); (try clear hk); (try clear hi); (try clear ho0); (try clear ho1); obtain ⟨hcz26_0, hcz26_1, hfz26_0, hfz26_1⟩ := bc2_ BK341) | ((with_reducible refine gate_callee (f := 53) rfl ?_); refine ge_ (some 37) rfl rfl Try.func53 (by kernel_rfl) rfl #[.agg #[.slice A0_0 l0_0.length c0_0, .int .i64 a0_1], .int .i64 a1] rfl (h := ?_); (with_reducible refine (tree_To.calls k _ _ l0_0 a0_1 a1 t357 t360 t361 _ ?side1 ?side2 A10.out).mono ?_); (case side1 => exact cw_ (Kd.C_below HR0_0.out HB.out)); (case side2 => exact HC0_0.out); rintro e w27 ⟨v358, rfl, ho0, hb⟩; refine ⟨_, rfl, ?_⟩; have HO359 := Aside0.mk (Kd.R_lower ho0 (below_size (hb_ HB))); replace HO345 := Aside0.mk (Kd.R_below (rw_ HO345.out) hb); replace HO348 := Aside0.mk (Kd.R_below (rw_ HO348.out) hb); replace HO352 := Aside0.mk (Kd.R_below (rw_ HO352.out) hb); replace HO355 := Aside0.mk (Kd.R_below (rw_ HO355.out) hb); replace BK341 := bb_ BK341 hb; replace HB := bs_ HB hb; (try clear hb); (try clear hb2); (try clear hk); (try clear hi); (try clear ho0)) | ((with_reducible refine gate_dst (N := 11) rfl ?_); refine be_ (N := 11) (cs := #[.slice none 0 0, .int .i64 0]) (t := 46) (h := ?_); intro gb362 hg w28 hbox hb; have BK362 := Aside0.mk (hbox); have GW362 := gw_ HB hg; have GE362 := gw_ HB hg; have NB341_362 := ne_ BK341 hg; have NB362_341 := en_ BK341 hg; replace HO345 := Aside0.mk (Kd.R_below (rw_ HO345.out) hb); replace HO348 := Aside0.mk (Kd.R_below (rw_ HO348.out) hb); replace HO352 := Aside0.mk (Kd.R_below (rw_ HO352.out) hb); replace HO355 := Aside0.mk (Kd.R_below (rw_ HO355.out) hb); replace HO359 := Aside0.mk (Kd.R_below (rw_ HO359.out) hb); replace BK341 := bb_ BK341 hb; replace HB := bs_ HB hb; clear hb hbox hg; obtain ⟨Ao29, co29, eo29⟩ := Kd.R_slice HO359.out; subst eo29; have hnb30 := NB362_341.out; have hnc30 := NB341_362.out; obtain ⟨hcz31_0, hcz31_1, hfz31_0, hfz31_1⟩ := bc2_ BK362; obtain ⟨hcz32_0, hcz32_1, hfz32_0, hfz32_1⟩ := bc2_ BK341) | ((with_reducible refine gate_callee (f := 54) rfl ?_); refine ge_ (some 43) rfl rfl Try.func54 (by kernel_rfl) rfl #[.agg #[.slice A0_0 l0_0.length c0_0, .int .i64 a0_1], .int .i64 a1] rfl (h := ?_); (with_reducible refine (calamusref11_To.calls k _ _ l0_0 a0_1 a1 t363 t366 t367 _ ?side1 ?side2 A11.out).mono ?_); (case side1 => exact Kd.C_below HR0_0.out (hb_ HB)); (case side2 => exact HC0_0.out); rintro e w33 ⟨v364, rfl, ho0, hb⟩; refine ⟨_, rfl, ?_⟩; have HO365 := Aside0.mk (Kd.R_lower (Kd.R_new' ho0 (Kd.R_lt (by (with_reducible repeat (first | apply Kd.R_alloc | apply Kd.R_drewN | apply Kd.R_drew)); exact (Kd.R_mono (rf_ (Kd.R_types HO359.out BK362.out (by decide)) (fun _ hk => hk.2)) (fun _ h_ => h_.1))))) (below_size (hb_ HB))); replace HO345 := Aside0.mk (Kd.R_below (by (with_reducible repeat (first | apply Kd.R_alloc | apply Kd.R_drewN | apply Kd.R_drew)); exact (Kd.R_mono (rf_ (Kd.R_types HO345.out BK362.out (by decide)) (fun _ hk => hk.2)) (fun _ h_ => h_.1))) hb); replace HO348 := Aside0.mk (Kd.R_below (by (with_reducible repeat (first | apply Kd.R_alloc | apply Kd.R_drewN | apply Kd.R_drew)); exact (Kd.R_mono (rf_ (Kd.R_types HO348.out BK362.out (by decide)) (fun _ hk => hk.2)) (fun _ h_ => h_.1))) hb); replace HO352 := Aside0.mk (Kd.R_below (by (with_reducible repeat (first | apply Kd.R_alloc | apply Kd.R_drewN | apply Kd.R_drew)); exact (Kd.R_mono (rf_ (Kd.R_types HO352.out BK362.out (by decide)) (fun _ hk => hk.2)) (fun _ h_ => h_.1))) hb); replace HO355 := Aside0.mk (Kd.R_below (by (with_reducible repeat (first | apply Kd.R_alloc | apply Kd.R_drewN | apply Kd.R_drew)); exact (Kd.R_mono (rf_ (Kd.R_types HO355.out BK362.out (by decide)) (fun _ hk => hk.2)) (fun _ h_ => h_.1))) hb); replace HO359 := Aside0.mk (Kd.R_elder' (by (with_reducible repeat (first | apply Kd.R_alloc | apply Kd.R_drewN | apply Kd.R_drew)); exact (Kd.R_mono (rf_ (Kd.R_types HO359.out BK362.out (by decide)) (fun _ hk => hk.2)) (fun _ h_ => h_.1))) (Kd.R_base ho0) hb); replace BK341 := Aside0.mk (blk_below (g := gb341) (o := .cells #[.slice A0_0 l0_0.length c0_0, .int .i64 a0_1] 46 (0, 0)) (bp_ BK341.out) hb); replace HB := bs_ HB hb; replace BK362 := Aside0.mk (blk_below (g := gb362) (o := .cells #[.slice Ao29 t357.length co29, .int .i64 t360] 46 (0, 0)) (bp_ BK362.out) hb); (try clear hb); (try clear hb2); (try clear hk); (try clear hi); (try clear ho0)) | ((with_reducible refine gate_dst (N := 13) rfl ?_); refine be_ (N := 13) (cs := #[.slice none 0 0, .int .i64 0]) (t := 46) (h := ?_); intro gb368 hg w34 hbox hb; have BK368 := Aside0.mk (hbox); have GW368 := gw_ HB hg; have GE368 := gw_ HB hg; have NB341_368 := ne_ BK341 hg; have NB368_341 := en_ BK341 hg; have NB362_368 := ne_ BK362 hg; have NB368_362 := en_ BK362 hg; replace HO345 := Aside0.mk (Kd.R_below (rw_ HO345.out) hb); replace HO348 := Aside0.mk (Kd.R_below (rw_ HO348.out) hb); replace HO352 := Aside0.mk (Kd.R_below (rw_ HO352.out) hb); replace HO355 := Aside0.mk (Kd.R_below (rw_ HO355.out) hb); replace HO359 := Aside0.mk (Kd.R_below (rw_ HO359.out) hb); replace HO365 := Aside0.mk (Kd.R_below (rw_ HO365.out) hb); replace BK341 := bb_ BK341 hb; replace BK362 := bb_ BK362 hb; replace HB := bs_ HB hb; clear hb hbox hg; obtain ⟨Ao35, co35, eo35⟩ := Kd.R_slice HO365.out; subst eo35; have hnb36 := NB368_341.out; have hnc36 := NB341_368.out; have hnb37 := NB368_362.out; have hnc37 := NB362_368.out; obtain ⟨hcz38_0, hcz38_1, hfz38_0, hfz38_1⟩ := bc2_ BK368; obtain ⟨Ao39, co39, eo39⟩ := Kd.R_slice HO345.out; subst eo39; obtain ⟨Ao40, co40, eo40⟩ := Kd.R_slice HO352.out; subst eo40) | ((with_reducible refine gate_callee (f := 46) rfl ?_); refine ge_ (some 48) rfl rfl Try.func46 (by kernel_rfl) rfl #[.slice Ao39 t343.length co39, .slice Ao40 t350.length co40] rfl (h := ?_); (with_reducible refine (calamusref01_Same.calls k _ _ t343 _ _ t350 true _ ?side1 ?side2 ?side3 ?side4 A12.out).mono ?_); (case side1 => refine (Kd.R_reads' (e := 3) (base := w.heap.size) (ok := fun k_ => ((some k_ ≠ (v347 : Value).ownBlock ∧ some k_ ≠ (.slice Ao40 t350.length co40 : Value).ownBlock) ∧ some k_ ≠ (v354 : Value).ownBlock)) (n := t343.length) (c := co39) ?_).2.2; exact (by (with_reducible repeat (first | apply Kd.R_alloc | apply Kd.R_drewN | apply Kd.R_drew)); exact (Kd.R_mono (rf_ (Kd.R_types HO345.out BK368.out (by decide)) (fun _ hk => hk.2)) (fun _ h_ => h_.1)))); (case side2 => exact (Kd.R_reads' HO345.out).2.1); (case side3 => refine (Kd.R_reads' (e := 3) (base := w.heap.size) (ok := fun k_ => ((some k_ ≠ (v354 : Value).ownBlock ∧ some k_ ≠ (.slice Ao39 t343.length co39 : Value).ownBlock) ∧ some k_ ≠ (v347 : Value).ownBlock)) (n := t350.length) (c := co40) ?_).2.2; exact (by (with_reducible repeat (first | apply Kd.R_alloc | apply Kd.R_drewN | apply Kd.R_drew)); exact (Kd.R_mono (rf_ (Kd.R_types HO352.out BK368.out (by decide)) (fun _ hk => hk.2)) (fun _ h_ => h_.1)))); (case side4 => exact (Kd.R_reads' HO352.out).2.1); rintro e w' ⟨rfl, ⟨nd, rfl⟩⟩; refine ⟨_, rfl, ?_⟩; obtain ⟨Ao41, co41, eo41⟩ := Kd.R_slice HO348.out; subst eo41; obtain ⟨Ao42, co42, eo42⟩ := Kd.R_slice HO355.out; subst eo42) | (go_at_call 46; (with_reducible refine (calamusref01_Same.calls k _ _ t346 _ _ t353 true _ ?side1 ?side2 ?side3 ?side4 A14.out).mono ?_); (case side1 => refine (Kd.R_reads' (e := 3) (base := w.heap.size) (ok := fun k_ => ((some k_ ≠ (.slice Ao39 t343.length co39 : Value).ownBlock ∧ some k_ ≠ (.slice Ao40 t350.length co40 : Value).ownBlock) ∧ some k_ ≠ (.slice Ao42 t353.length co42 : Value).ownBlock)) (n := t346.length) (c := co41) ?_).2.2; exact (by (with_reducible repeat (first | apply Kd.R_alloc | apply Kd.R_drewN | apply Kd.R_drew)); exact (Kd.R_mono (rf_ (Kd.R_types HO348.out BK368.out (by decide)) (fun _ hk => hk.2)) (fun _ h_ => h_.1)))); (case side2 => exact (Kd.R_reads' HO348.out).2.1); (case side3 => refine (Kd.R_reads' (e := 3) (base := w.heap.size) (ok := fun k_ => ((some k_ ≠ (.slice Ao40 t350.length co40 : Value).ownBlock ∧ some k_ ≠ (.slice Ao39 t343.length co39 : Value).ownBlock) ∧ some k_ ≠ (.slice Ao41 t346.length co41 : Value).ownBlock)) (n := t353.length) (c := co42) ?_).2.2; exact (by (with_reducible repeat (first | apply Kd.R_alloc | apply Kd.R_drewN | apply Kd.R_drew)); exact (Kd.R_mono (rf_ (Kd.R_types HO355.out BK368.out (by decide)) (fun _ hk => hk.2)) (fun _ h_ => h_.1)))); (case side4 => exact (Kd.R_reads' HO355.out).2.1); rintro e w' ⟨rfl, ⟨nd, rfl⟩⟩; obtain ⟨hcz43_0, hcz43_1, hfz43_0, hfz43_1⟩ := bc2_ BK362) | (go_at_call 38; (with_reducible refine (calamusref11_Same.calls k _ _ t357 t360 _ _ t363 t366 true _ ?side1 ?side2 ?side3 ?side4 A17.out).mono ?_); (case side1 => refine (Kd.R_reads' (e := 69) (base := w.heap.size) (ok := fun k_ => (True ∧ some k_ ≠ (.slice Ao35 t363.length co35 : Value).ownBlock)) (n := t357.length) (c := co29) ?_).2.2; exact (by (with_reducible repeat (first | apply Kd.R_alloc | apply Kd.R_drewN | apply Kd.R_drew)); exact (Kd.R_mono (rf_ (Kd.R_types HO359.out BK368.out (by decide)) (fun _ hk => hk.2)) (fun _ h_ => h_.1)))); (case side2 => exact (Kd.R_reads' HO359.out).2.1); (case side3 => refine (Kd.R_reads' (e := 69) (base := w.heap.size) (ok := fun k_ => (True ∧ some k_ ≠ (.slice Ao29 t357.length co29 : Value).ownBlock)) (n := t363.length) (c := co35) ?_).2.2; exact (by (with_reducible repeat (first | apply Kd.R_alloc | apply Kd.R_drewN | apply Kd.R_drew)); exact (Kd.R_mono (rf_ (Kd.R_types HO365.out BK368.out (by decide)) (fun _ hk => hk.2)) (fun _ h_ => h_.1)))); (case side4 => exact (Kd.R_reads' HO365.out).2.1); rintro e w44 ⟨rfl, hb⟩; replace HO345 := Aside0.mk (Kd.R_below (by (with_reducible repeat (first | apply Kd.R_alloc | apply Kd.R_drewN | apply Kd.R_drew)); exact (Kd.R_mono (rf_ (Kd.R_types HO345.out BK368.out (by decide)) (fun _ hk => hk.2)) (fun _ h_ => h_.1))) hb); replace HO348 := Aside0.mk (Kd.R_below (by (with_reducible repeat (first | apply Kd.R_alloc | apply Kd.R_drewN | apply Kd.R_drew)); exact (Kd.R_mono (rf_ (Kd.R_types HO348.out BK368.out (by decide)) (fun _ hk => hk.2)) (fun _ h_ => h_.1))) hb); replace HO352 := Aside0.mk (Kd.R_below (by (with_reducible repeat (first | apply Kd.R_alloc | apply Kd.R_drewN | apply Kd.R_drew)); exact (Kd.R_mono (rf_ (Kd.R_types HO352.out BK368.out (by decide)) (fun _ hk => hk.2)) (fun _ h_ => h_.1))) hb); replace HO355 := Aside0.mk (Kd.R_below (by (with_reducible repeat (first | apply Kd.R_alloc | apply Kd.R_drewN | apply Kd.R_drew)); exact (Kd.R_mono (rf_ (Kd.R_types HO355.out BK368.out (by decide)) (fun _ hk => hk.2)) (fun _ h_ => h_.1))) hb); replace HO359 := Aside0.mk (Kd.R_below (by (with_reducible repeat (first | apply Kd.R_alloc | apply Kd.R_drewN | apply Kd.R_drew)); exact (Kd.R_mono (rf_ (Kd.R_types HO359.out BK368.out (by decide)) (fun _ hk => hk.2)) (fun _ h_ => h_.1))) hb); replace HO365 := Aside0.mk (Kd.R_below (by (with_reducible repeat (first | apply Kd.R_alloc | apply Kd.R_drewN | apply Kd.R_drew)); exact (Kd.R_mono (rf_ (Kd.R_types HO365.out BK368.out (by decide)) (fun _ hk => hk.2)) (fun _ h_ => h_.1))) hb); replace BK341 := Aside0.mk (blk_below (g := gb341) (o := .cells #[.slice A0_0 l0_0.length c0_0, .int .i64 a0_1] 46 (0, 0)) (bp_ BK341.out) hb); replace BK362 := Aside0.mk (blk_below (g := gb362) (o := .cells #[.slice Ao29 t357.length co29, .int .i64 t360] 46 (0, 0)) (bp_ BK362.out) hb); replace HB := bs_ HB hb; replace BK368 := Aside0.mk (blk_below (g := gb368) (o := .cells #[.slice Ao35 t363.length co35, .int .i64 t366] 46 (0, 0)) (bp_ BK368.out) hb); (try clear hb); (try clear hb2); (try clear hk); (try clear hi)) | (go_at_call 33; (with_reducible refine (calamuslaw11_lives.calls k  t372 _ A20.out).mono ?_); rintro e w45 ⟨rfl, hb⟩; replace HO345 := Aside0.mk (Kd.R_below (rw_ HO345.out) hb); replace HO348 := Aside0.mk (Kd.R_below (rw_ HO348.out) hb); replace HO352 := Aside0.mk (Kd.R_below (rw_ HO352.out) hb); replace HO355 := Aside0.mk (Kd.R_below (rw_ HO355.out) hb); replace HO359 := Aside0.mk (Kd.R_below (rw_ HO359.out) hb); replace HO365 := Aside0.mk (Kd.R_below (rw_ HO365.out) hb); replace BK341 := bb_ BK341 hb; replace BK362 := bb_ BK362 hb; replace BK368 := bb_ BK368 hb; replace HB := bs_ HB hb; (try clear hb); (try clear hb2); (try clear hk); (try clear hi)))
       go_ret
       exact ⟨er_, hb_ HB⟩
      ·rw [if_neg c19] at H
       have c19b0 : (t361 == t367) = false := beq_eq_false_iff_ne.mpr c19
       have c19b1 : (t361 != t367) = true := bne_iff_ne.mpr c19
       exact nf_ H hr_
     ·replace c18 := Bool.eq_false_iff.mpr c18
      subst c18
      have H1 : (some false) = some r := by rw [if_neg (show ¬ (false = true) by decide)] at H; exact H
      clear H
      have H := H1
      clear H1
      exact nf_ H hr_
    ·rw [if_neg c16] at H
     have c16b0 : (t349 == t356) = false := beq_eq_false_iff_ne.mpr c16
     have c16b1 : (t349 != t356) = true := bne_iff_ne.mpr c16
     exact nf_ H hr_
   ·replace c15 := Bool.eq_false_iff.mpr c15
    subst c15
    have H1 : (some false) = some r := by rw [if_neg (show ¬ (false = true) by decide)] at H; exact H
    clear H
    have H := H1
    clear H1
    exact nf_ H hr_
  ·replace c13 := Bool.eq_false_iff.mpr c13
   subst c13
   have H1 : (some false) = some r := by rw [if_neg (show ¬ (false = true) by decide)] at H; exact H
   clear H
   have H := H1
   clear H1
   exact nf_ H hr_
end Go.Proofs.Ytkiokimpblimcaa.PTreeGoes
