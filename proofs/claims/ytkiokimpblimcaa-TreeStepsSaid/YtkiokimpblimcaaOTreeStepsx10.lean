/- Of the law calamus/calamuslaw11.TreeSteps: what each function that it reaches tells, as a plain Lean function with a proof that the call comes to it; the row out of that. By a program of this repo (wip/tpl/own_print.py). Conditions: none but the row's own. -/
import Derived.Test.YtkiokimpblimcaaOTreeStepsx0
import Derived.Test.YtkiokimpblimcaaOTreeStepsx3
import Derived.Test.YtkiokimpblimcaaOTreeStepsx5
import Derived.Test.YtkiokimpblimcaaOTreeStepsx7
import Derived.Test.YtkiokimpblimcaaOTreeStepsx8
import Derived.Test.YtkiokimpblimcaaOTreeStepsx9
namespace Go.Proofs.Ytkiokimpblimcaa.PTreeSteps
open Go.RowKit Go.Proofs.YtkiokimpblimcaaW.PrintWords Go.Proofs.YtkiokimpblimcaaW.PrintLast Go.Proofs.YtkiokimpblimcaaW.PrintMore
attribute [local go_sem] max2_int min2_int max_two min_two max_three min_three max_four min_four   -- for this text's walks alone
set_option linter.unusedVariables false
set_option linter.unusedSimpArgs false

/-! ### calamusref11_kids: function 86 -/
def calamusref11_kids.l0 : Nat → Int → List Int → Int → List (S69) → Int → Option (List Int)
 | 0, _, _, _, _, _ => none
 | k + 1, x1, x5, x6, x290000, x290001 => if x6 < (x290000.length : Int) then (if 0 ≤ x6 then (if ((rd_T69 x290000 x6).f0) = x1 then (if x5.length < 17592186044416 then (calamusref11_kids.l0 k x1 (x5 ++ [x6]) (wrap64 (x6 + 1)) x290000 x290001) else (none)) else (calamusref11_kids.l0 k x1 x5 (wrap64 (x6 + 1)) x290000 x290001)) else (none)) else (some x5)
def calamusref11_kids.f (k : Nat) (l0_0 : List (S69)) (a0_1 : Int) (a1 : Int) : Option (List Int) := calamusref11_kids.l0 k a1 ([] : List Int) 0 l0_0 a0_1
theorem calamusref11_kids.mono_l : ∀ k, (∀ y0 y1 y2 y3 y4, LeO (calamusref11_kids.l0 k y0 y1 y2 y3 y4) (calamusref11_kids.l0 (k + 1) y0 y1 y2 y3 y4))
 | 0 => fun _ _ _ _ _ r h => by simp [calamusref11_kids.l0] at h
 | k + 1 => by
  have ih0 := calamusref11_kids.mono_l k
  ·intro y0 y1 y2 y3 y4
   unfold calamusref11_kids.l0
   repeat' first
   | (with_reducible exact ih0 _ _ _ _ _)
   | (with_reducible exact LeO.refl _)
   | (with_reducible exact LeO.none _)
   | (with_reducible refine LeO.ite ?_ ?_)
   | (with_reducible refine LeO.bind ?_ (fun _ => ?_))
   | exact ih0 _ _ _ _ _
   | exact LeO.none _
   | refine LeO.ite ?_ ?_
   | refine LeO.bind ?_ (fun _ => ?_)
theorem calamusref11_kids.mono : ∀ a0 a1 a2 k, LeO (calamusref11_kids.f k a0 a1 a2) (calamusref11_kids.f (k + 1) a0 a1 a2) := by
 intro a0 a1 a2 k
 have ih0 := calamusref11_kids.mono_l k
 unfold calamusref11_kids.f
 repeat' first
   | (with_reducible exact ih0 _ _ _ _ _)
   | (with_reducible exact LeO.refl _)
   | (with_reducible exact LeO.none _)
   | (with_reducible refine LeO.ite ?_ ?_)
   | (with_reducible refine LeO.bind ?_ (fun _ => ?_))
   | exact ih0 _ _ _ _ _
   | exact LeO.none _
   | refine LeO.ite ?_ ?_
   | refine LeO.bind ?_ (fun _ => ?_)
set_option maxHeartbeats 8000000 in
set_option maxRecDepth 100000 in
theorem calamusref11_kids.calls (k : Nat) (A0_0 : Option Addr) (c0_0 : Nat) (l0_0 : List (S69)) (a0_1 : Int) (a1 : Int) (r : List Int) (w : World) (hr0_0 : Kd.C k69 w A0_0 l0_0.length l0_0) (hc0_0 : l0_0.length ≤ c0_0) (h : calamusref11_kids.f k l0_0 a0_1 a1 = some r) :
  Calls Try.prog 86 #[.agg #[.slice A0_0 l0_0.length c0_0, .int .i64 a0_1], .int .i64 a1] w fun e w' => ∃ v0_ : Value, e = .returned (v0_) ∧ Kd.R (Kd.int .i64) 3 w' w.heap.size (fun _ => True) v0_ r ∧ Below w.heap.size w w' := by
 have hu46 := Try.underlying46
 have HR0_0 := Aside0.mk hr0_0
 have HC0_0 := Aside0.mk hc0_0
 clear hr0_0 hc0_0
 have HB := Aside0.mk (Below.refl w.heap.size w)
 have H : (calamusref11_kids.l0 k a1 ([] : List Int) 0 l0_0 a0_1) = some r := h
 clear h
 have H' := Aside0.mk H
 clear H
 go_enter Try.func86, Try.ntmps86
 go_wp2_with (first | ((with_reducible refine gate_dst (N := 2) rfl ?_); refine box_event ?hg (N := 2) ?hd (cs := #[.slice A0_0 l0_0.length c0_0, .int .i64 a0_1]) (t := 46) ?hr ?_; (case hd => rfl); (case hg => rfl); (case hr => first | (go_simp; done) | (go_simp; rfl)); intro gb289 hg w3 hbox hb; have n0_ := bs_ HB hb; have n1_ := Aside0.mk (hbox); have n2_ := gw_ HB hg; have n3_ := gw_ HB hg; clear HB; have HB := n0_; have BK289 := n1_; have GW289 := n2_; have GE289 := n3_; clear n0_ n1_ n2_ n3_; clear hb hbox hg))
 go_loopg [5, 6] k (fun kq v5 v6 w' => ∃ (x5_1 : List Int) (x6_1 : Int), v6 = .int .i64 x6_1 ∧ Aside0 (calamusref11_kids.l0 kq a1 x5_1 x6_1 l0_0 a0_1 = some r) ∧ Aside0 (kq ≤ k) ∧ Aside0 (Kd.R (Kd.int .i64) 3 w' w.heap.size (fun _ => True) v5 x5_1) ∧ Aside0 (w'.heap[gb289]? = some (.cells #[(.slice A0_0 l0_0.length c0_0), .int .i64 a0_1] 46 (0, 0))) ∧ Aside0 (Below w.heap.size w w'))
 case atStart => exact ⟨(([] : List Int)), (0), (by first | rfl | (simp; done) | (simp [*]; done)), H', ⟨Nat.le_refl _⟩, ⟨by first | exact Kd.R_nil _ _ _ _ _ | exact Kd.N_nil _ _ _ _ _ | exact Kd.V_nil _ _ _ _ _ | exact Kd.Q_nil _ _ _ _ _ | exact Kd.S_nil _ _ _ _ _⟩, ⟨bw_ BK289.out⟩, ⟨hb_ HB⟩⟩
 case round =>
  clear H'
  try clear p2
  obtain ⟨x5_1, x6_1, rfl, HA, HK1, HO_5, BK289, HB⟩ := hrel
  cases gk with
  | zero => exact absurd HA.out (by simp [calamusref11_kids.l0])
  | succ k1 =>
   have H := HA.out
   clear HA
   simp only [calamusref11_kids.l0] at H
   by_cases c4 : x6_1 < (l0_0.length : Int)
   ·rw [if_pos c4] at H
    have c4b0 : decide (x6_1 < (l0_0.length : Int)) = true := decide_eq_true c4
    clear c4
    by_cases c5 : 0 ≤ x6_1
    ·rw [if_pos c5] at H
     have c5b0 : decide (0 ≤ x6_1) = true := decide_eq_true c5
     clear c5
     by_cases c6 : ((rd_T69 l0_0 x6_1).f0) = a1
     ·rw [if_pos c6] at H
      have c6b0 : (((rd_T69 l0_0 x6_1).f0) == a1) = true := beq_iff_eq.mpr c6
      have c6b1 : (((rd_T69 l0_0 x6_1).f0) != a1) = false := bne_eq_false_iff_eq.mpr c6
      clear c6
      by_cases c7 : x5_1.length < 17592186044416
      ·rw [if_pos c7] at H
       have LMc7 := Aside0.mk c7
       clear c7
       obtain ⟨y291, hy291⟩ : ∃ y_ : List Int, y_ = (x5_1 ++ [x6_1]) := ⟨_, rfl⟩
       replace H : (calamusref11_kids.l0 k1 a1 y291 (wrap64 (x6_1 + 1)) l0_0 a0_1) = some r := by first | (rw [hy291]; with_reducible exact H) | (have H2_ := (Option.bind_some _ _).symm.trans H; rw [hy291]; with_reducible exact H2_) | (have H2_ := (Option.bind_some _ _).symm.trans H; with_reducible exact H2_) | with_reducible exact H | (rw [hy291]; exact H) | exact H
       have Ny291 := Aside0.mk hy291
       clear hy291
       have H' := Aside0.mk H
       clear H
       obtain ⟨hcz8_0, hcz8_1, hfz8_0, hfz8_1⟩ := bc2_ BK289
       have p290 : 0 ≤ (x6_1 : Int) := of_decide_eq_true as_
       have q290 : x6_1 < (l0_0.length : Int) := of_decide_eq_true as_
       obtain ⟨ad290, e290, hx290_0, hx290_1, hx290_2, hx290_3, hx290_4, hx290_5, hx290_6⟩ := at_T69 HR0_0.out x6_1 p290 q290
       cases e290
       replace hx290_0 := cb_ HB hx290_0
       replace hx290_1 := cb_ HB hx290_1
       replace hx290_2 := cb_ HB hx290_2
       replace hx290_3 := cb_ HB hx290_3
       replace hx290_4 := cb_ HB hx290_4
       replace hx290_5 := cb_ HB hx290_5
       replace hx290_6 := cb_ HB hx290_6
       replace p290 := eq_true p290
       replace q290 := eq_true q290
       go_wp2_with (first | ((with_reducible refine gate_builtin (b := .append) (xs := #[.tmp 22, .tmp 24]) rfl ?_); at_builtin; refine Kd.R_append (Kd.int .i64) (w0 := w) w.heap.size rfl (.tmp 22) (.tmp 24) 59 3 (.int .i64 0) 8 rfl Try.underlying59 info3 rfl (by decide) (by omega) u5 x5_1 x6_1 [.int .i64 x6_1] (fun _ => True) (fun _ => False) rfl rfl ?aP (fun _ hk => hk.elim) ?aF ?aO ?aB ?aS ?aL ?_; (case aP => exact rfl); (case aB => exact (hb_ HB)); (case aF => exact (fun _ _ => trivial)); (case aO => exact (rw_ HO_5.out)); (case aS => exact (below_size (hb_ HB))); (case aL => have := LMc7.out; omega); intro v292 w9 ho hb hg hat; rw [← Ny291.out] at ho; have n0_ := Aside0.mk (blk_grown (g := gb289) (o := .cells #[.slice (some ad290) l0_0.length c0_0, .int .i64 a0_1] 46 (0, 0)) (bw_ BK289.out) hg (Kd.R_ne HO_5.out BK289.out (by decide))); have n1_ := Aside0.mk (hb); have n2_ := Aside0.mk (ho); clear BK289; clear HB; clear HO_5; have BK289 := n0_; have HB := n1_; have HO293 := n2_; clear n0_ n1_ n2_; clear ho hb hg hat))
       go_roundg k1
       case measure => have := HK1.out; omega
       case rel => exact ⟨(y291), (wrap64 (x6_1 + 1)), (by first | rfl | (simp; done) | (simp [*]; done)), H', ⟨by have := HK1.out; omega⟩, ⟨rw_ HO293.out⟩, ⟨bw_ BK289.out⟩, ⟨hb_ HB⟩⟩
      ·rw [if_neg c7] at H
       exact absurd H (by simp)
     ·rw [if_neg c6] at H
      have c6b0 : (((rd_T69 l0_0 x6_1).f0) == a1) = false := beq_eq_false_iff_ne.mpr c6
      have c6b1 : (((rd_T69 l0_0 x6_1).f0) != a1) = true := bne_iff_ne.mpr c6
      have H' := Aside0.mk H
      clear H
      obtain ⟨hcz10_0, hcz10_1, hfz10_0, hfz10_1⟩ := bc2_ BK289
      have p290 : 0 ≤ (x6_1 : Int) := of_decide_eq_true as_
      have q290 : x6_1 < (l0_0.length : Int) := of_decide_eq_true as_
      obtain ⟨ad290, e290, hx290_0, hx290_1, hx290_2, hx290_3, hx290_4, hx290_5, hx290_6⟩ := at_T69 HR0_0.out x6_1 p290 q290
      cases e290
      replace hx290_0 := cb_ HB hx290_0
      replace hx290_1 := cb_ HB hx290_1
      replace hx290_2 := cb_ HB hx290_2
      replace hx290_3 := cb_ HB hx290_3
      replace hx290_4 := cb_ HB hx290_4
      replace hx290_5 := cb_ HB hx290_5
      replace hx290_6 := cb_ HB hx290_6
      replace p290 := eq_true p290
      replace q290 := eq_true q290
      go_wp2
      go_roundg k1
      case measure => have := HK1.out; omega
      case rel => exact ⟨(x5_1), (wrap64 (x6_1 + 1)), (by first | rfl | (simp; done) | (simp [*]; done)), H', ⟨by have := HK1.out; omega⟩, ⟨rw_ HO_5.out⟩, ⟨bw_ BK289.out⟩, ⟨hb_ HB⟩⟩
    ·rw [if_neg c5] at H
     exact absurd H (by simp)
   ·rw [if_neg c4] at H
    have c4b0 : decide (x6_1 < (l0_0.length : Int)) = false := decide_eq_false c4
    clear c4
    obtain rfl := Option.some.inj H
    obtain ⟨hcz11_0, hcz11_1, hfz11_0, hfz11_1⟩ := bc2_ BK289
    go_wp2
    go_ret
    exact ⟨_, by first | rfl | (simp [errW_none, errW_some] <;> rfl) | (simp [*, errW_none, errW_some] <;> rfl), by (with_reducible repeat (first | apply Kd.R_alloc | apply Kd.R_drewN | apply Kd.R_drew)); exact HO_5.out, hb_ HB⟩

/-! ### calamusref11_Kids: function 48 -/
def calamusref11_Kids.f (k : Nat) (l0_0 : List (S69)) (a0_1 : Int) (a1 : Int) : Option (List Int) := (calamusref11_Right.f k l0_0 a0_1).bind fun t295 => (if t295 = true then ((calamusref11_has.f l0_0 a0_1 a1).bind fun t296 => (if t296 = true then ((calamusref11_kids.f k l0_0 a0_1 a1).bind fun t297 => (some t297)) else (some ([] : List Int)))) else (some ([] : List Int)))
theorem calamusref11_Kids.mono : ∀ a0 a1 a2 k, LeO (calamusref11_Kids.f k a0 a1 a2) (calamusref11_Kids.f (k + 1) a0 a1 a2) := by
 intro a0 a1 a2 k
 unfold calamusref11_Kids.f
 repeat' first
   | (with_reducible exact calamusref11_Right.mono _ _ _)
   | (with_reducible exact calamusref11_kids.mono _ _ _ _)
   | (with_reducible exact LeO.refl _)
   | (with_reducible exact LeO.none _)
   | (with_reducible refine LeO.ite ?_ ?_)
   | (with_reducible refine LeO.bind ?_ (fun _ => ?_))
   | exact calamusref11_Right.mono _ _ _
   | exact calamusref11_kids.mono _ _ _ _
   | exact LeO.none _
   | refine LeO.ite ?_ ?_
   | refine LeO.bind ?_ (fun _ => ?_)
set_option maxHeartbeats 8000000 in
set_option maxRecDepth 100000 in
theorem calamusref11_Kids.calls (k : Nat) (A0_0 : Option Addr) (c0_0 : Nat) (l0_0 : List (S69)) (a0_1 : Int) (a1 : Int) (r : List Int) (w : World) (hr0_0 : Kd.C k69 w A0_0 l0_0.length l0_0) (hc0_0 : l0_0.length ≤ c0_0) (h : calamusref11_Kids.f k l0_0 a0_1 a1 = some r) :
  Calls Try.prog 48 #[.agg #[.slice A0_0 l0_0.length c0_0, .int .i64 a0_1], .int .i64 a1] w fun e w' => ∃ v0_ : Value, e = .returned (v0_) ∧ Kd.R (Kd.int .i64) 3 w' w.heap.size (fun _ => True) v0_ r ∧ Below w.heap.size w w' := by
 have hu46 := Try.underlying46
 have HR0_0 := Aside0.mk hr0_0
 have HC0_0 := Aside0.mk hc0_0
 clear hr0_0 hc0_0
 have HB := Aside0.mk (Below.refl w.heap.size w)
 have H : ((calamusref11_Right.f k l0_0 a0_1).bind fun t295 => (if t295 = true then ((calamusref11_has.f l0_0 a0_1 a1).bind fun t296 => (if t296 = true then ((calamusref11_kids.f k l0_0 a0_1 a1).bind fun t297 => (some t297)) else (some ([] : List Int)))) else (some ([] : List Int)))) = some r := h
 clear h
 replace H := Option.bind_eq_some_iff.mp H
 obtain ⟨t295, A30, H⟩ := H
 replace H : (if t295 = true then ((calamusref11_has.f l0_0 a0_1 a1).bind fun t296 => (if t296 = true then ((calamusref11_kids.f k l0_0 a0_1 a1).bind fun t297 => (some t297)) else (some ([] : List Int)))) else (some ([] : List Int))) = some r := H
 have A3 := Aside0.mk A30
 clear A30
 by_cases c4 : t295 = true
 ·subst c4
  have H1 : ((calamusref11_has.f l0_0 a0_1 a1).bind fun t296 => (if t296 = true then ((calamusref11_kids.f k l0_0 a0_1 a1).bind fun t297 => (some t297)) else (some ([] : List Int)))) = some r := by rw [if_pos rfl] at H; exact H
  clear H
  have H := H1
  clear H1
  replace H := Option.bind_eq_some_iff.mp H
  obtain ⟨t296, A50, H⟩ := H
  replace H : (if t296 = true then ((calamusref11_kids.f k l0_0 a0_1 a1).bind fun t297 => (some t297)) else (some ([] : List Int))) = some r := H
  have A5 := Aside0.mk A50
  clear A50
  by_cases c6 : t296 = true
  ·subst c6
   have H1 : ((calamusref11_kids.f k l0_0 a0_1 a1).bind fun t297 => (some t297)) = some r := by rw [if_pos rfl] at H; exact H
   clear H
   have H := H1
   clear H1
   replace H := Option.bind_eq_some_iff.mp H
   obtain ⟨t297, A70, H⟩ := H
   replace H : (some t297) = some r := H
   have A7 := Aside0.mk A70
   clear A70
   obtain rfl := Option.some.inj H
   go_enter Try.func48, Try.ntmps48
   go_wp2_with (first | ((with_reducible refine gate_dst (N := 2) rfl ?_); refine box_event ?hg (N := 2) ?hd (cs := #[.slice A0_0 l0_0.length c0_0, .int .i64 a0_1]) (t := 46) ?hr ?_; (case hd => rfl); (case hg => rfl); (case hr => first | (go_simp; done) | (go_simp; rfl)); intro gb294 hg w8 hbox hb; have n0_ := bs_ HB hb; have n1_ := Aside0.mk (hbox); have n2_ := gw_ HB hg; have n3_ := gw_ HB hg; clear HB; have HB := n0_; have BK294 := n1_; have GW294 := n2_; have GE294 := n3_; clear n0_ n1_ n2_ n3_; clear hb hbox hg; obtain ⟨hcz9_0, hcz9_1, hfz9_0, hfz9_1⟩ := bc2_ BK294) | ((with_reducible refine gate_callee (f := 37) rfl ?_); refine goesL_ (some 6) rfl rfl Try.func37 (by kernel_rfl) rfl #[.agg #[.slice A0_0 l0_0.length c0_0, .int .i64 a0_1]] rfl (by (try simp only [List.map_toArray, List.map_cons, List.map_nil]); first | done | rfl | (simp only [List.length_drop, List.length_take]; rfl)) ?_; (with_reducible refine (calamusref11_Right.calls k _ _ l0_0 a0_1 true _ ?side1 ?side2 A3.out).mono ?_); (case side1 => exact cw_ (Kd.C_below HR0_0.out HB.out)); (case side2 => exact HC0_0.out); rintro e w10 ⟨rfl, hb⟩; refine ⟨_, rfl, ?_⟩; have n0_ := bb_ BK294 hb; have n1_ := bs_ HB hb; clear BK294; clear HB; have BK294 := n0_; have HB := n1_; clear n0_ n1_; (try clear hb); (try clear hb2); (try clear hk); (try clear hi); obtain ⟨hcz11_0, hcz11_1, hfz11_0, hfz11_1⟩ := bc2_ BK294) | (go_at_call 82; (with_reducible refine (calamusref11_has.calls _ _ l0_0 a0_1 a1 true _ ?side1 ?side2 A5.out).mono ?_); (case side1 => exact cw_ (Kd.C_below HR0_0.out HB.out)); (case side2 => exact HC0_0.out); rintro e w12 ⟨rfl, hb⟩; have n0_ := bb_ BK294 hb; have n1_ := bs_ HB hb; clear BK294; clear HB; have BK294 := n0_; have HB := n1_; clear n0_ n1_; (try clear hb); (try clear hb2); (try clear hk); (try clear hi); obtain ⟨hcz13_0, hcz13_1, hfz13_0, hfz13_1⟩ := bc2_ BK294) | ((with_reducible refine gate_callee (f := 86) rfl ?_); refine goesL_ (some 16) rfl rfl Try.func86 (by kernel_rfl) rfl #[.agg #[.slice A0_0 l0_0.length c0_0, .int .i64 a0_1], .int .i64 a1] rfl (by (try simp only [List.map_toArray, List.map_cons, List.map_nil]); first | done | rfl | (simp only [List.length_drop, List.length_take]; rfl)) ?_; (with_reducible refine (calamusref11_kids.calls k _ _ l0_0 a0_1 a1 t297 _ ?side1 ?side2 A7.out).mono ?_); (case side1 => exact cw_ (Kd.C_below HR0_0.out HB.out)); (case side2 => exact HC0_0.out); rintro e w14 ⟨v298, rfl, ho0, hb⟩; refine ⟨_, rfl, ?_⟩; have n0_ := Aside0.mk (Kd.R_lower ho0 (below_size (hb_ HB))); have n1_ := bb_ BK294 hb; have n2_ := bs_ HB hb; clear BK294; clear HB; have HO299 := n0_; have BK294 := n1_; have HB := n2_; clear n0_ n1_ n2_; (try clear hb); (try clear hb2); (try clear hk); (try clear hi); (try clear ho0)))
   go_ret
   exact ⟨_, by first | rfl | (simp [errW_none, errW_some] <;> rfl) | (simp [*, errW_none, errW_some] <;> rfl), by (with_reducible repeat (first | apply Kd.R_alloc | apply Kd.R_drewN | apply Kd.R_drew)); exact HO299.out, hb_ HB⟩
  ·replace c6 := Bool.eq_false_iff.mpr c6
   subst c6
   have H1 : (some ([] : List Int)) = some r := by rw [if_neg (show ¬ (false = true) by decide)] at H; exact H
   clear H
   have H := H1
   clear H1
   obtain rfl := Option.some.inj H
   go_enter Try.func48, Try.ntmps48
   go_wp2_with (first | ((with_reducible refine gate_dst (N := 2) rfl ?_); refine box_event ?hg (N := 2) ?hd (cs := #[.slice A0_0 l0_0.length c0_0, .int .i64 a0_1]) (t := 46) ?hr ?_; (case hd => rfl); (case hg => rfl); (case hr => first | (go_simp; done) | (go_simp; rfl)); intro gb294 hg w15 hbox hb; have n0_ := bs_ HB hb; have n1_ := Aside0.mk (hbox); have n2_ := gw_ HB hg; have n3_ := gw_ HB hg; clear HB; have HB := n0_; have BK294 := n1_; have GW294 := n2_; have GE294 := n3_; clear n0_ n1_ n2_ n3_; clear hb hbox hg; obtain ⟨hcz16_0, hcz16_1, hfz16_0, hfz16_1⟩ := bc2_ BK294) | ((with_reducible refine gate_callee (f := 37) rfl ?_); refine goesL_ (some 6) rfl rfl Try.func37 (by kernel_rfl) rfl #[.agg #[.slice A0_0 l0_0.length c0_0, .int .i64 a0_1]] rfl (by (try simp only [List.map_toArray, List.map_cons, List.map_nil]); first | done | rfl | (simp only [List.length_drop, List.length_take]; rfl)) ?_; (with_reducible refine (calamusref11_Right.calls k _ _ l0_0 a0_1 true _ ?side1 ?side2 A3.out).mono ?_); (case side1 => exact cw_ (Kd.C_below HR0_0.out HB.out)); (case side2 => exact HC0_0.out); rintro e w17 ⟨rfl, hb⟩; refine ⟨_, rfl, ?_⟩; have n0_ := bb_ BK294 hb; have n1_ := bs_ HB hb; clear BK294; clear HB; have BK294 := n0_; have HB := n1_; clear n0_ n1_; (try clear hb); (try clear hb2); (try clear hk); (try clear hi); obtain ⟨hcz18_0, hcz18_1, hfz18_0, hfz18_1⟩ := bc2_ BK294) | (go_at_call 82; (with_reducible refine (calamusref11_has.calls _ _ l0_0 a0_1 a1 false _ ?side1 ?side2 A5.out).mono ?_); (case side1 => exact cw_ (Kd.C_below HR0_0.out HB.out)); (case side2 => exact HC0_0.out); rintro e w19 ⟨rfl, hb⟩; have n0_ := bb_ BK294 hb; have n1_ := bs_ HB hb; clear BK294; clear HB; have BK294 := n0_; have HB := n1_; clear n0_ n1_; (try clear hb); (try clear hb2); (try clear hk); (try clear hi)))
   go_ret
   exact ⟨_, by first | rfl | (simp [errW_none, errW_some] <;> rfl) | (simp [*, errW_none, errW_some] <;> rfl), by first | exact Kd.R_nil _ _ _ _ _ | exact Kd.N_nil _ _ _ _ _ | exact Kd.V_nil _ _ _ _ _ | exact Kd.Q_nil _ _ _ _ _ | exact Kd.S_nil _ _ _ _ _, hb_ HB⟩
 ·replace c4 := Bool.eq_false_iff.mpr c4
  subst c4
  have H1 : (some ([] : List Int)) = some r := by rw [if_neg (show ¬ (false = true) by decide)] at H; exact H
  clear H
  have H := H1
  clear H1
  obtain rfl := Option.some.inj H
  go_enter Try.func48, Try.ntmps48
  go_wp2_with (first | ((with_reducible refine gate_dst (N := 2) rfl ?_); refine box_event ?hg (N := 2) ?hd (cs := #[.slice A0_0 l0_0.length c0_0, .int .i64 a0_1]) (t := 46) ?hr ?_; (case hd => rfl); (case hg => rfl); (case hr => first | (go_simp; done) | (go_simp; rfl)); intro gb294 hg w20 hbox hb; have n0_ := bs_ HB hb; have n1_ := Aside0.mk (hbox); have n2_ := gw_ HB hg; have n3_ := gw_ HB hg; clear HB; have HB := n0_; have BK294 := n1_; have GW294 := n2_; have GE294 := n3_; clear n0_ n1_ n2_ n3_; clear hb hbox hg; obtain ⟨hcz21_0, hcz21_1, hfz21_0, hfz21_1⟩ := bc2_ BK294) | ((with_reducible refine gate_callee (f := 37) rfl ?_); refine goesL_ (some 6) rfl rfl Try.func37 (by kernel_rfl) rfl #[.agg #[.slice A0_0 l0_0.length c0_0, .int .i64 a0_1]] rfl (by (try simp only [List.map_toArray, List.map_cons, List.map_nil]); first | done | rfl | (simp only [List.length_drop, List.length_take]; rfl)) ?_; (with_reducible refine (calamusref11_Right.calls k _ _ l0_0 a0_1 false _ ?side1 ?side2 A3.out).mono ?_); (case side1 => exact cw_ (Kd.C_below HR0_0.out HB.out)); (case side2 => exact HC0_0.out); rintro e w22 ⟨rfl, hb⟩; refine ⟨_, rfl, ?_⟩; have n0_ := bb_ BK294 hb; have n1_ := bs_ HB hb; clear BK294; clear HB; have BK294 := n0_; have HB := n1_; clear n0_ n1_; (try clear hb); (try clear hb2); (try clear hk); (try clear hi)))
  go_ret
  exact ⟨_, by first | rfl | (simp [errW_none, errW_some] <;> rfl) | (simp [*, errW_none, errW_some] <;> rfl), by first | exact Kd.R_nil _ _ _ _ _ | exact Kd.N_nil _ _ _ _ _ | exact Kd.V_nil _ _ _ _ _ | exact Kd.Q_nil _ _ _ _ _ | exact Kd.S_nil _ _ _ _ _, hb_ HB⟩

/-! ### tree_Choose: function 49 -/
def tree_Choose.f (k : Nat) (l0_0 : List (S69)) (a0_1 : Int) (a1 : Int) : Option ((List (S69)) × Int × Int) := (tree_open.f k l0_0 a0_1).bind fun bt302 => (if bt302.2.2 = true then ((tree_book_has.f bt302.1 bt302.2.1 a1).bind fun t308 => (if t308 = true then (if a1 = 0 then (some (([] : List (S69)), 0, 7)) else ((tree_book_copy.f bt302.1 bt302.2.1).bind fun bt309 => (if 0 ≤ a1 then (if a1 < (bt309.1.length : Int) then (if 0 ≤ ((rd_T69 bt309.1 a1).f0) then (if ((rd_T69 bt309.1 a1).f0) < (bt309.1.length : Int) then (some ((bt309.1.set (((rd_T69 bt309.1 a1).f0) : Int).toNat (⟨(rd_T69 bt309.1 ((rd_T69 bt309.1 a1).f0)).f0, a1, (rd_T69 bt309.1 ((rd_T69 bt309.1 a1).f0)).f2, (rd_T69 bt309.1 ((rd_T69 bt309.1 a1).f0)).f3, (⟨(rd_T69 bt309.1 ((rd_T69 bt309.1 a1).f0)).f4.f0, (rd_T69 bt309.1 ((rd_T69 bt309.1 a1).f0)).f4.f1, (rd_T69 bt309.1 ((rd_T69 bt309.1 a1).f0)).f4.f2⟩ : S24)⟩ : S69)), bt309.2, 0)) else (none)) else (none)) else (none)) else (none)))) else (some (([] : List (S69)), 0, 7)))) else (some (([] : List (S69)), 0, 1)))
theorem tree_Choose.mono : ∀ a0 a1 a2 k, LeO (tree_Choose.f k a0 a1 a2) (tree_Choose.f (k + 1) a0 a1 a2) := by
 intro a0 a1 a2 k
 unfold tree_Choose.f
 repeat' first
   | (with_reducible exact tree_open.mono _ _ _)
   | (with_reducible exact LeO.refl _)
   | (with_reducible exact LeO.none _)
   | (with_reducible refine LeO.ite ?_ ?_)
   | (with_reducible refine LeO.bind ?_ (fun _ => ?_))
   | exact tree_open.mono _ _ _
   | exact LeO.none _
   | refine LeO.ite ?_ ?_
   | refine LeO.bind ?_ (fun _ => ?_)
def tree_Choose.T7 : Bool × List (List Nat × List Nat) := (true, [([], []), ([0], [0]), ([1], [1]), ([], []), ([3], [3]), ([4], [4]), ([], []), ([5, 6], [5, 6]), ([7], [7]), ([8], [8]), ([], []), ([2, 9, 0, 1, 2, 3, 4, 5, 6, 7, 8, 9, 10], [2, 9]), ([11, 0, 1, 2, 3, 4, 5, 6, 7, 8, 9, 10], [11]), ([12, 10, 0, 1, 2, 3, 4, 5, 6, 7, 8, 9, 10], [10, 12])])
def tree_Choose.B7 : List Nat := [0, 1, 3, 0, 8, 24, 0, 120, 248, 504, 0, 2047, 4095, 8191]
theorem tree_Choose.tab7 : rtab .any (opsOf Try.f49 7) = tree_Choose.T7 := by kernel_rfl
theorem tree_Choose.bits7 : waitsOk tree_Choose.T7.2 tree_Choose.B7 = true := by kernel_rfl
set_option maxHeartbeats 8000000 in
set_option maxRecDepth 100000 in
theorem tree_Choose.calls (k : Nat) (A0_0 : Option Addr) (c0_0 : Nat) (l0_0 : List (S69)) (a0_1 : Int) (a1 : Int) (r1 : List (S69)) (r2 : Int) (r3 : Int) (w : World) (hr0_0 : Kd.C k69 w A0_0 l0_0.length l0_0) (hc0_0 : l0_0.length ≤ c0_0) (h : tree_Choose.f k l0_0 a0_1 a1 = some (r1, r2, r3)) :
  Calls Try.prog 49 #[.agg #[.slice A0_0 l0_0.length c0_0, .int .i64 a0_1], .int .i64 a1] w fun e w' => ∃ v0_ : Value, e = .returned (.tuple #[.agg #[v0_, .int .i64 r2], .int .i64 r3]) ∧ Kd.R k69 69 w' w.heap.size (fun _ => True) v0_ r1 ∧ Below w.heap.size w w' := by
 have hu46 := Try.underlying46
 have hu104 := Try.underlying104
 have hu102 := Try.underlying102
 have HR0_0 := Aside0.mk hr0_0
 have HC0_0 := Aside0.mk hc0_0
 clear hr0_0 hc0_0
 have HB := Aside0.mk (Below.refl w.heap.size w)
 have H : ((tree_open.f k l0_0 a0_1).bind fun bt302 => (if bt302.2.2 = true then ((tree_book_has.f bt302.1 bt302.2.1 a1).bind fun t308 => (if t308 = true then (if a1 = 0 then (some (([] : List (S69)), 0, 7)) else ((tree_book_copy.f bt302.1 bt302.2.1).bind fun bt309 => (if 0 ≤ a1 then (if a1 < (bt309.1.length : Int) then (if 0 ≤ ((rd_T69 bt309.1 a1).f0) then (if ((rd_T69 bt309.1 a1).f0) < (bt309.1.length : Int) then (some ((bt309.1.set (((rd_T69 bt309.1 a1).f0) : Int).toNat (⟨(rd_T69 bt309.1 ((rd_T69 bt309.1 a1).f0)).f0, a1, (rd_T69 bt309.1 ((rd_T69 bt309.1 a1).f0)).f2, (rd_T69 bt309.1 ((rd_T69 bt309.1 a1).f0)).f3, (⟨(rd_T69 bt309.1 ((rd_T69 bt309.1 a1).f0)).f4.f0, (rd_T69 bt309.1 ((rd_T69 bt309.1 a1).f0)).f4.f1, (rd_T69 bt309.1 ((rd_T69 bt309.1 a1).f0)).f4.f2⟩ : S24)⟩ : S69)), bt309.2, 0)) else (none)) else (none)) else (none)) else (none)))) else (some (([] : List (S69)), 0, 7)))) else (some (([] : List (S69)), 0, 1)))) = some (r1, r2, r3) := h
 clear h
 replace H := Option.bind_eq_some_iff.mp H
 obtain ⟨⟨t302, t305, t306⟩, A30, H⟩ := H
 replace H : (if t306 = true then ((tree_book_has.f t302 t305 a1).bind fun t308 => (if t308 = true then (if a1 = 0 then (some (([] : List (S69)), 0, 7)) else ((tree_book_copy.f t302 t305).bind fun bt309 => (if 0 ≤ a1 then (if a1 < (bt309.1.length : Int) then (if 0 ≤ ((rd_T69 bt309.1 a1).f0) then (if ((rd_T69 bt309.1 a1).f0) < (bt309.1.length : Int) then (some ((bt309.1.set (((rd_T69 bt309.1 a1).f0) : Int).toNat (⟨(rd_T69 bt309.1 ((rd_T69 bt309.1 a1).f0)).f0, a1, (rd_T69 bt309.1 ((rd_T69 bt309.1 a1).f0)).f2, (rd_T69 bt309.1 ((rd_T69 bt309.1 a1).f0)).f3, (⟨(rd_T69 bt309.1 ((rd_T69 bt309.1 a1).f0)).f4.f0, (rd_T69 bt309.1 ((rd_T69 bt309.1 a1).f0)).f4.f1, (rd_T69 bt309.1 ((rd_T69 bt309.1 a1).f0)).f4.f2⟩ : S24)⟩ : S69)), bt309.2, 0)) else (none)) else (none)) else (none)) else (none)))) else (some (([] : List (S69)), 0, 7)))) else (some (([] : List (S69)), 0, 1))) = some (r1, r2, r3) := H
 have A3 := Aside0.mk A30
 clear A30
 by_cases c4 : t306 = true
 ·subst c4
  have H1 : ((tree_book_has.f t302 t305 a1).bind fun t308 => (if t308 = true then (if a1 = 0 then (some (([] : List (S69)), 0, 7)) else ((tree_book_copy.f t302 t305).bind fun bt309 => (if 0 ≤ a1 then (if a1 < (bt309.1.length : Int) then (if 0 ≤ ((rd_T69 bt309.1 a1).f0) then (if ((rd_T69 bt309.1 a1).f0) < (bt309.1.length : Int) then (some ((bt309.1.set (((rd_T69 bt309.1 a1).f0) : Int).toNat (⟨(rd_T69 bt309.1 ((rd_T69 bt309.1 a1).f0)).f0, a1, (rd_T69 bt309.1 ((rd_T69 bt309.1 a1).f0)).f2, (rd_T69 bt309.1 ((rd_T69 bt309.1 a1).f0)).f3, (⟨(rd_T69 bt309.1 ((rd_T69 bt309.1 a1).f0)).f4.f0, (rd_T69 bt309.1 ((rd_T69 bt309.1 a1).f0)).f4.f1, (rd_T69 bt309.1 ((rd_T69 bt309.1 a1).f0)).f4.f2⟩ : S24)⟩ : S69)), bt309.2, 0)) else (none)) else (none)) else (none)) else (none)))) else (some (([] : List (S69)), 0, 7)))) = some (r1, r2, r3) := by rw [if_pos rfl] at H; exact H
  clear H
  have H := H1
  clear H1
  replace H := Option.bind_eq_some_iff.mp H
  obtain ⟨t308, A50, H⟩ := H
  replace H : (if t308 = true then (if a1 = 0 then (some (([] : List (S69)), 0, 7)) else ((tree_book_copy.f t302 t305).bind fun bt309 => (if 0 ≤ a1 then (if a1 < (bt309.1.length : Int) then (if 0 ≤ ((rd_T69 bt309.1 a1).f0) then (if ((rd_T69 bt309.1 a1).f0) < (bt309.1.length : Int) then (some ((bt309.1.set (((rd_T69 bt309.1 a1).f0) : Int).toNat (⟨(rd_T69 bt309.1 ((rd_T69 bt309.1 a1).f0)).f0, a1, (rd_T69 bt309.1 ((rd_T69 bt309.1 a1).f0)).f2, (rd_T69 bt309.1 ((rd_T69 bt309.1 a1).f0)).f3, (⟨(rd_T69 bt309.1 ((rd_T69 bt309.1 a1).f0)).f4.f0, (rd_T69 bt309.1 ((rd_T69 bt309.1 a1).f0)).f4.f1, (rd_T69 bt309.1 ((rd_T69 bt309.1 a1).f0)).f4.f2⟩ : S24)⟩ : S69)), bt309.2, 0)) else (none)) else (none)) else (none)) else (none)))) else (some (([] : List (S69)), 0, 7))) = some (r1, r2, r3) := H
  have A5 := Aside0.mk A50
  clear A50
  by_cases c6 : t308 = true
  ·subst c6
   have H1 : (if a1 = 0 then (some (([] : List (S69)), 0, 7)) else ((tree_book_copy.f t302 t305).bind fun bt309 => (if 0 ≤ a1 then (if a1 < (bt309.1.length : Int) then (if 0 ≤ ((rd_T69 bt309.1 a1).f0) then (if ((rd_T69 bt309.1 a1).f0) < (bt309.1.length : Int) then (some ((bt309.1.set (((rd_T69 bt309.1 a1).f0) : Int).toNat (⟨(rd_T69 bt309.1 ((rd_T69 bt309.1 a1).f0)).f0, a1, (rd_T69 bt309.1 ((rd_T69 bt309.1 a1).f0)).f2, (rd_T69 bt309.1 ((rd_T69 bt309.1 a1).f0)).f3, (⟨(rd_T69 bt309.1 ((rd_T69 bt309.1 a1).f0)).f4.f0, (rd_T69 bt309.1 ((rd_T69 bt309.1 a1).f0)).f4.f1, (rd_T69 bt309.1 ((rd_T69 bt309.1 a1).f0)).f4.f2⟩ : S24)⟩ : S69)), bt309.2, 0)) else (none)) else (none)) else (none)) else (none)))) = some (r1, r2, r3) := by rw [if_pos rfl] at H; exact H
   clear H
   have H := H1
   clear H1
   by_cases c7 : a1 = 0
   ·rw [if_pos c7] at H
    have c7b0 : (a1 == 0) = true := beq_iff_eq.mpr c7
    have c7b1 : (a1 != 0) = false := bne_eq_false_iff_eq.mpr c7
    clear c7
    simp only [Option.some.injEq, Prod.mk.injEq] at H
    obtain ⟨rfl, rfl, rfl⟩ := H
    go_enter Try.func49, Try.ntmps49
    go_wp2_with (first | ((with_reducible refine gate_dst (N := 2) rfl ?_); refine box_event ?hg (N := 2) ?hd (cs := #[.slice A0_0 l0_0.length c0_0, .int .i64 a0_1]) (t := 46) ?hr ?_; (case hd => rfl); (case hg => rfl); (case hr => first | (go_simp; done) | (go_simp; rfl)); intro gb300 hg w8 hbox hb; have n0_ := bs_ HB hb; have n1_ := Aside0.mk (hbox); have n2_ := gw_ HB hg; have n3_ := gw_ HB hg; clear HB; have HB := n0_; have BK300 := n1_; have GW300 := n2_; have GE300 := n3_; clear n0_ n1_ n2_ n3_; clear hb hbox hg) | ((with_reducible refine gate_dst (N := 4) rfl ?_); refine box_event ?hg (N := 4) ?hd (cs := #[.slice none 0 0, .int .i64 0]) (t := 46) ?hr ?_; (case hd => rfl); (case hg => rfl); (case hr => first | (go_simp; done) | (go_simp; rfl)); intro gb301 hg w9 hbox hb; have n0_ := bb_ BK300 hb; have n1_ := bs_ HB hb; have n2_ := Aside0.mk (hbox); have n3_ := gw_ HB hg; have n4_ := gw_ HB hg; have n5_ := ne_ BK300 hg; have n6_ := en_ BK300 hg; clear BK300; clear HB; have BK300 := n0_; have HB := n1_; have BK301 := n2_; have GW301 := n3_; have GE301 := n4_; have NB300_301 := n5_; have NB301_300 := n6_; clear n0_ n1_ n2_ n3_ n4_ n5_ n6_; clear hb hbox hg; have hnb10 := NB300_301.out; have hnc10 := NB301_300.out; obtain ⟨hcz11_0, hcz11_1, hfz11_0, hfz11_1⟩ := bc2_ BK300) | ((with_reducible refine gate_callee (f := 79) rfl ?_); refine goesL_ (some 9) rfl rfl Try.func79 (by kernel_rfl) rfl #[.agg #[.slice A0_0 l0_0.length c0_0, .int .i64 a0_1]] rfl (by (try simp only [List.map_toArray, List.map_cons, List.map_nil]); first | done | rfl | (simp only [List.length_drop, List.length_take]; rfl)) ?_; (with_reducible refine (tree_open.calls k (fun k_ => k_ < w.heap.size) _ _ l0_0 a0_1 t302 t305 true _ ?side1 A3.out).mono ?_); (case side1 => exact Kd.V_mk HC0_0.out (Kd.F_below (Kd.C_F k69_heap HR0_0.out) (hb_ HB))); rintro e w12 ⟨v303, rfl, ho0, hb⟩; refine ⟨_, rfl, ?_⟩; have n0_ := Aside0.mk (Kd.V_lower (Kd.V_mono (ok' := fun k_ => k_ ≠ gb300 ∧ k_ ≠ gb301) ho0 (fun k_ hk_ => ⟨Or.elim hk_ (fun hs_ => fun e_ => Nat.not_le.2 hs_ (by rw [e_]; exact GW300.out)) (fun hn_ => (Kd.freshB (g := gb300) (o := .cells #[.slice A0_0 l0_0.length c0_0, .int .i64 a0_1] 46 (0, 0)) (bw_ BK300.out) k_ hn_)), Or.elim hk_ (fun hs_ => fun e_ => Nat.not_le.2 hs_ (by rw [e_]; exact GW301.out)) (fun hn_ => (Kd.freshB (g := gb301) (o := .cells #[.slice none 0 0, .int .i64 0] 46 (0, 0)) (bw_ BK301.out) k_ hn_))⟩)) (below_size (hb_ HB))); have n1_ := bb_ BK300 hb; have n2_ := bb_ BK301 hb; have n3_ := bs_ HB hb; clear BK300; clear BK301; clear HB; have HO304 := n0_; have BK300 := n1_; have BK301 := n2_; have HB := n3_; clear n0_ n1_ n2_ n3_; (try clear hb); (try clear hb2); (try clear hk); (try clear hi); (try clear ho0)) | ((with_reducible refine gate_dst (N := 6) rfl ?_); refine box_event ?hg (N := 6) ?hd (cs := #[.slice none 0 0, .int .i64 0, .bool false]) (t := 104) ?hr ?_; (case hd => rfl); (case hg => rfl); (case hr => first | (go_simp; done) | (go_simp; rfl)); intro gb307 hg w13 hbox hb; have n0_ := Aside0.mk (Kd.V_below (Kd.V_elderB (vw_ HO304.out) gb307 (Nat.le_of_eq hg.symm)) hb); have n1_ := bb_ BK300 hb; have n2_ := bb_ BK301 hb; have n3_ := bs_ HB hb; have n4_ := Aside0.mk (hbox); have n5_ := gw_ HB hg; have n6_ := gw_ HB hg; have n7_ := ne_ BK300 hg; have n8_ := en_ BK300 hg; have n9_ := ne_ BK301 hg; have n10_ := en_ BK301 hg; clear HO304; clear BK300; clear BK301; clear HB; have HO304 := n0_; have BK300 := n1_; have BK301 := n2_; have HB := n3_; have BK307 := n4_; have GW307 := n5_; have GE307 := n6_; have NB300_307 := n7_; have NB307_300 := n8_; have NB301_307 := n9_; have NB307_301 := n10_; clear n0_ n1_ n2_ n3_ n4_ n5_ n6_ n7_ n8_ n9_ n10_; clear hb hbox hg; obtain ⟨Ao14, co14, eo14⟩ := Kd.V_slice HO304.out; subst eo14; have hnb15 := NB307_300.out; have hnc15 := NB300_307.out; have hnb16 := NB307_301.out; have hnc16 := NB301_307.out; obtain ⟨hcz17_0, hcz17_1, hcz17_2, hfz17_0, hfz17_1, hfz17_2⟩ := bc3_ BK307) | ((with_reducible refine gate_callee (f := 85) rfl ?_); refine goesL_ (some 17) rfl rfl Try.func85 (by kernel_rfl) rfl #[.agg #[.slice Ao14 t302.length co14, .int .i64 t305], .int .i64 a1] rfl (by (try simp only [List.map_toArray, List.map_cons, List.map_nil]); first | done | rfl | (simp only [List.length_drop, List.length_take]; rfl)) ?_; (with_reducible refine (tree_book_has.calls _ _ t302 t305 a1 true _ ?side1 ?side2 A5.out).mono ?_); (case side1 => refine (Kd.V_reads' (e := 69) (base := w.heap.size) (ok := fun k_ => ((k_ ≠ gb300 ∧ k_ ≠ gb301) ∧ k_ ≠ gb307)) (n := t302.length) (c := co14) ?_).2.2; exact (by (with_reducible repeat (first | apply Kd.V_alloc | apply Kd.V_drewN | apply Kd.V_drew)); exact (Kd.V_mono (Kd.V_far (p := ⟨gb307, 2, none⟩) (Kd.V_far (p := ⟨gb307, 1, none⟩) (Kd.V_far (p := ⟨gb307, 0, none⟩) (Kd.V_mono HO304.out (fun k_ hk => (⟨hk, hk.2⟩ : _ ∧ k_ ≠ gb307))) (fun _ hk => hk.2) (.slice Ao14 t302.length co14)) (fun _ hk => hk.2) (.int .i64 t305)) (fun _ hk => hk.2) (.bool true)) (fun _ h_ => h_.1)))); (case side2 => exact (Kd.V_reads' HO304.out).2.1); rintro e w18 ⟨rfl, hb⟩; refine ⟨_, rfl, ?_⟩; have n0_ := Aside0.mk (Kd.V_below (by (with_reducible repeat (first | apply Kd.V_alloc | apply Kd.V_drewN | apply Kd.V_drew)); exact (Kd.V_mono (Kd.V_far (p := ⟨gb307, 2, none⟩) (Kd.V_far (p := ⟨gb307, 1, none⟩) (Kd.V_far (p := ⟨gb307, 0, none⟩) (Kd.V_mono HO304.out (fun k_ hk => (⟨hk, hk.2⟩ : _ ∧ k_ ≠ gb307))) (fun _ hk => hk.2) (.slice Ao14 t302.length co14)) (fun _ hk => hk.2) (.int .i64 t305)) (fun _ hk => hk.2) (.bool true)) (fun _ h_ => h_.1))) hb); have n1_ := Aside0.mk (blk_below (g := gb300) (o := .cells #[.slice A0_0 l0_0.length c0_0, .int .i64 a0_1] 46 (0, 0)) (bp_ BK300.out) hb); have n2_ := Aside0.mk (blk_below (g := gb301) (o := .cells #[.slice none 0 0, .int .i64 0] 46 (0, 0)) (bp_ BK301.out) hb); have n3_ := Aside0.mk (blk_below (g := gb307) (o := .cells #[.slice Ao14 t302.length co14, .int .i64 t305, .bool true] 104 (0, 0)) (bp_ BK307.out) hb); have n4_ := bs_ HB hb; clear HO304; clear BK300; clear BK301; clear BK307; clear HB; have HO304 := n0_; have BK300 := n1_; have BK301 := n2_; have BK307 := n3_; have HB := n4_; clear n0_ n1_ n2_ n3_ n4_; (try clear hb); (try clear hb2); (try clear hk); (try clear hi); obtain ⟨hcz19_0, hcz19_1, hfz19_0, hfz19_1⟩ := bc2_ BK301))
    refine bodyPost_ret (results_ct rfl _ _ gb301 46 #[.slice none 0 0, .int .i64 0] (0, 0) _ rfl (bp_ BK301.out) Try.underlying46 rfl (by kernel_rfl)) rfl ?_
    exact ⟨_, by first | rfl | (simp [errW_none, errW_some] <;> rfl) | (simp [*, errW_none, errW_some] <;> rfl), by first | exact Kd.R_nil _ _ _ _ _ | exact Kd.N_nil _ _ _ _ _ | exact Kd.V_nil _ _ _ _ _ | exact Kd.Q_nil _ _ _ _ _ | exact Kd.S_nil _ _ _ _ _, hb_ HB⟩
   ·rw [if_neg c7] at H
    have c7b0 : (a1 == 0) = false := beq_eq_false_iff_ne.mpr c7
    have c7b1 : (a1 != 0) = true := bne_iff_ne.mpr c7
    replace H := Option.bind_eq_some_iff.mp H
    obtain ⟨⟨t309, t312⟩, A200, H⟩ := H
    replace H : (if 0 ≤ a1 then (if a1 < (t309.length : Int) then (if 0 ≤ ((rd_T69 t309 a1).f0) then (if ((rd_T69 t309 a1).f0) < (t309.length : Int) then (some ((t309.set (((rd_T69 t309 a1).f0) : Int).toNat (⟨(rd_T69 t309 ((rd_T69 t309 a1).f0)).f0, a1, (rd_T69 t309 ((rd_T69 t309 a1).f0)).f2, (rd_T69 t309 ((rd_T69 t309 a1).f0)).f3, (⟨(rd_T69 t309 ((rd_T69 t309 a1).f0)).f4.f0, (rd_T69 t309 ((rd_T69 t309 a1).f0)).f4.f1, (rd_T69 t309 ((rd_T69 t309 a1).f0)).f4.f2⟩ : S24)⟩ : S69)), t312, 0)) else (none)) else (none)) else (none)) else (none)) = some (r1, r2, r3) := H
    have A20 := Aside0.mk A200
    clear A200
    by_cases c21 : 0 ≤ a1
    ·rw [if_pos c21] at H
     have c21b0 : decide (0 ≤ a1) = true := decide_eq_true c21
     clear c21
     by_cases c22 : a1 < (t309.length : Int)
     ·rw [if_pos c22] at H
      have c22b0 : decide (a1 < (t309.length : Int)) = true := decide_eq_true c22
      clear c22
      by_cases c23 : 0 ≤ ((rd_T69 t309 a1).f0)
      ·rw [if_pos c23] at H
       have c23b0 : decide (0 ≤ ((rd_T69 t309 a1).f0)) = true := decide_eq_true c23
       clear c23
       by_cases c24 : ((rd_T69 t309 a1).f0) < (t309.length : Int)
       ·rw [if_pos c24] at H
        have c24b0 : decide (((rd_T69 t309 a1).f0) < (t309.length : Int)) = true := decide_eq_true c24
        clear c24
        obtain ⟨y315, hy315⟩ : ∃ y_ : List (S69), y_ = (t309.set (((rd_T69 t309 a1).f0) : Int).toNat (⟨(rd_T69 t309 ((rd_T69 t309 a1).f0)).f0, a1, (rd_T69 t309 ((rd_T69 t309 a1).f0)).f2, (rd_T69 t309 ((rd_T69 t309 a1).f0)).f3, (⟨(rd_T69 t309 ((rd_T69 t309 a1).f0)).f4.f0, (rd_T69 t309 ((rd_T69 t309 a1).f0)).f4.f1, (rd_T69 t309 ((rd_T69 t309 a1).f0)).f4.f2⟩ : S24)⟩ : S69)) := ⟨_, rfl⟩
        replace H : (some (y315, t312, 0)) = some (r1, r2, r3) := by first | (rw [hy315]; with_reducible exact H) | (have H2_ := (Option.bind_some _ _).symm.trans H; rw [hy315]; with_reducible exact H2_) | (have H2_ := (Option.bind_some _ _).symm.trans H; with_reducible exact H2_) | with_reducible exact H | (rw [hy315]; exact H) | exact H
        have Ny315 := Aside0.mk hy315
        clear hy315
        simp only [Option.some.injEq, Prod.mk.injEq] at H
        obtain ⟨rfl, rfl, rfl⟩ := H
        go_enter Try.func49, Try.ntmps49
        try go_wp2_with (first | ((with_reducible refine gate_dst (N := 2) rfl ?_); refine box_event ?hg (N := 2) ?hd (cs := #[.slice A0_0 l0_0.length c0_0, .int .i64 a0_1]) (t := 46) ?hr ?_; (case hd => rfl); (case hg => rfl); (case hr => first | (go_simp; done) | (go_simp; rfl)); intro gb300 hg w26 hbox hb; have n0_ := bs_ HB hb; have n1_ := Aside0.mk (hbox); have n2_ := gw_ HB hg; have n3_ := gw_ HB hg; clear HB; have HB := n0_; have BK300 := n1_; have GW300 := n2_; have GE300 := n3_; clear n0_ n1_ n2_ n3_; clear hb hbox hg) | ((with_reducible refine gate_dst (N := 4) rfl ?_); refine box_event ?hg (N := 4) ?hd (cs := #[.slice none 0 0, .int .i64 0]) (t := 46) ?hr ?_; (case hd => rfl); (case hg => rfl); (case hr => first | (go_simp; done) | (go_simp; rfl)); intro gb301 hg w27 hbox hb; have n0_ := bb_ BK300 hb; have n1_ := bs_ HB hb; have n2_ := Aside0.mk (hbox); have n3_ := gw_ HB hg; have n4_ := gw_ HB hg; have n5_ := ne_ BK300 hg; have n6_ := en_ BK300 hg; clear BK300; clear HB; have BK300 := n0_; have HB := n1_; have BK301 := n2_; have GW301 := n3_; have GE301 := n4_; have NB300_301 := n5_; have NB301_300 := n6_; clear n0_ n1_ n2_ n3_ n4_ n5_ n6_; clear hb hbox hg; have hnb28 := NB300_301.out; have hnc28 := NB301_300.out; obtain ⟨hcz29_0, hcz29_1, hfz29_0, hfz29_1⟩ := bc2_ BK300) | ((with_reducible refine gate_callee (f := 79) rfl ?_); refine goesL_ (some 9) rfl rfl Try.func79 (by kernel_rfl) rfl #[.agg #[.slice A0_0 l0_0.length c0_0, .int .i64 a0_1]] rfl (by (try simp only [List.map_toArray, List.map_cons, List.map_nil]); first | done | rfl | (simp only [List.length_drop, List.length_take]; rfl)) ?_; (with_reducible refine (tree_open.calls k (fun k_ => k_ < w.heap.size) _ _ l0_0 a0_1 t302 t305 true _ ?side1 A3.out).mono ?_); (case side1 => exact Kd.V_mk HC0_0.out (Kd.F_below (Kd.C_F k69_heap HR0_0.out) (hb_ HB))); rintro e w30 ⟨v303, rfl, ho0, hb⟩; refine ⟨_, rfl, ?_⟩; have n0_ := Aside0.mk (Kd.V_lower (Kd.V_mono (ok' := fun k_ => k_ ≠ gb300 ∧ k_ ≠ gb301) ho0 (fun k_ hk_ => ⟨Or.elim hk_ (fun hs_ => fun e_ => Nat.not_le.2 hs_ (by rw [e_]; exact GW300.out)) (fun hn_ => (Kd.freshB (g := gb300) (o := .cells #[.slice A0_0 l0_0.length c0_0, .int .i64 a0_1] 46 (0, 0)) (bw_ BK300.out) k_ hn_)), Or.elim hk_ (fun hs_ => fun e_ => Nat.not_le.2 hs_ (by rw [e_]; exact GW301.out)) (fun hn_ => (Kd.freshB (g := gb301) (o := .cells #[.slice none 0 0, .int .i64 0] 46 (0, 0)) (bw_ BK301.out) k_ hn_))⟩)) (below_size (hb_ HB))); have n1_ := bb_ BK300 hb; have n2_ := bb_ BK301 hb; have n3_ := bs_ HB hb; clear BK300; clear BK301; clear HB; have HO304 := n0_; have BK300 := n1_; have BK301 := n2_; have HB := n3_; clear n0_ n1_ n2_ n3_; (try clear hb); (try clear hb2); (try clear hk); (try clear hi); (try clear ho0)) | ((with_reducible refine gate_dst (N := 6) rfl ?_); refine box_event ?hg (N := 6) ?hd (cs := #[.slice none 0 0, .int .i64 0, .bool false]) (t := 104) ?hr ?_; (case hd => rfl); (case hg => rfl); (case hr => first | (go_simp; done) | (go_simp; rfl)); intro gb307 hg w31 hbox hb; have n0_ := Aside0.mk (Kd.V_below (Kd.V_elderB (vw_ HO304.out) gb307 (Nat.le_of_eq hg.symm)) hb); have n1_ := bb_ BK300 hb; have n2_ := bb_ BK301 hb; have n3_ := bs_ HB hb; have n4_ := Aside0.mk (hbox); have n5_ := gw_ HB hg; have n6_ := gw_ HB hg; have n7_ := ne_ BK300 hg; have n8_ := en_ BK300 hg; have n9_ := ne_ BK301 hg; have n10_ := en_ BK301 hg; clear HO304; clear BK300; clear BK301; clear HB; have HO304 := n0_; have BK300 := n1_; have BK301 := n2_; have HB := n3_; have BK307 := n4_; have GW307 := n5_; have GE307 := n6_; have NB300_307 := n7_; have NB307_300 := n8_; have NB301_307 := n9_; have NB307_301 := n10_; clear n0_ n1_ n2_ n3_ n4_ n5_ n6_ n7_ n8_ n9_ n10_; clear hb hbox hg; obtain ⟨Ao32, co32, eo32⟩ := Kd.V_slice HO304.out; subst eo32; have hnb33 := NB307_300.out; have hnc33 := NB300_307.out; have hnb34 := NB307_301.out; have hnc34 := NB301_307.out; obtain ⟨hcz35_0, hcz35_1, hcz35_2, hfz35_0, hfz35_1, hfz35_2⟩ := bc3_ BK307) | ((with_reducible refine gate_callee (f := 85) rfl ?_); refine goesL_ (some 17) rfl rfl Try.func85 (by kernel_rfl) rfl #[.agg #[.slice Ao32 t302.length co32, .int .i64 t305], .int .i64 a1] rfl (by (try simp only [List.map_toArray, List.map_cons, List.map_nil]); first | done | rfl | (simp only [List.length_drop, List.length_take]; rfl)) ?_; (with_reducible refine (tree_book_has.calls _ _ t302 t305 a1 true _ ?side1 ?side2 A5.out).mono ?_); (case side1 => refine (Kd.V_reads' (e := 69) (base := w.heap.size) (ok := fun k_ => ((k_ ≠ gb300 ∧ k_ ≠ gb301) ∧ k_ ≠ gb307)) (n := t302.length) (c := co32) ?_).2.2; exact (by (with_reducible repeat (first | apply Kd.V_alloc | apply Kd.V_drewN | apply Kd.V_drew)); exact (Kd.V_mono (Kd.V_far (p := ⟨gb307, 2, none⟩) (Kd.V_far (p := ⟨gb307, 1, none⟩) (Kd.V_far (p := ⟨gb307, 0, none⟩) (Kd.V_mono HO304.out (fun k_ hk => (⟨hk, hk.2⟩ : _ ∧ k_ ≠ gb307))) (fun _ hk => hk.2) (.slice Ao32 t302.length co32)) (fun _ hk => hk.2) (.int .i64 t305)) (fun _ hk => hk.2) (.bool true)) (fun _ h_ => h_.1)))); (case side2 => exact (Kd.V_reads' HO304.out).2.1); rintro e w36 ⟨rfl, hb⟩; refine ⟨_, rfl, ?_⟩; have n0_ := Aside0.mk (Kd.V_below (by (with_reducible repeat (first | apply Kd.V_alloc | apply Kd.V_drewN | apply Kd.V_drew)); exact (Kd.V_mono (Kd.V_far (p := ⟨gb307, 2, none⟩) (Kd.V_far (p := ⟨gb307, 1, none⟩) (Kd.V_far (p := ⟨gb307, 0, none⟩) (Kd.V_mono HO304.out (fun k_ hk => (⟨hk, hk.2⟩ : _ ∧ k_ ≠ gb307))) (fun _ hk => hk.2) (.slice Ao32 t302.length co32)) (fun _ hk => hk.2) (.int .i64 t305)) (fun _ hk => hk.2) (.bool true)) (fun _ h_ => h_.1))) hb); have n1_ := Aside0.mk (blk_below (g := gb300) (o := .cells #[.slice A0_0 l0_0.length c0_0, .int .i64 a0_1] 46 (0, 0)) (bp_ BK300.out) hb); have n2_ := Aside0.mk (blk_below (g := gb301) (o := .cells #[.slice none 0 0, .int .i64 0] 46 (0, 0)) (bp_ BK301.out) hb); have n3_ := Aside0.mk (blk_below (g := gb307) (o := .cells #[.slice Ao32 t302.length co32, .int .i64 t305, .bool true] 104 (0, 0)) (bp_ BK307.out) hb); have n4_ := bs_ HB hb; clear HO304; clear BK300; clear BK301; clear BK307; clear HB; have HO304 := n0_; have BK300 := n1_; have BK301 := n2_; have BK307 := n3_; have HB := n4_; clear n0_ n1_ n2_ n3_ n4_; (try clear hb); (try clear hb2); (try clear hk); (try clear hi); obtain ⟨hcz37_0, hcz37_1, hcz37_2, hfz37_0, hfz37_1, hfz37_2⟩ := bc3_ BK307) | ((with_reducible refine gate_callee (f := 80) rfl ?_); refine goesL_ (some 26) rfl rfl Try.func80 (by kernel_rfl) rfl #[.agg #[.slice Ao32 t302.length co32, .int .i64 t305]] rfl (by (try simp only [List.map_toArray, List.map_cons, List.map_nil]); first | done | rfl | (simp only [List.length_drop, List.length_take]; rfl)) ?_; (with_reducible refine (tree_book_copy.calls _ _ t302 t305 t309 t312 _ ?side1 ?side2 A20.out).mono ?_); (case side1 => repeat (first | exact (Kd.V_reads' HO304.out).2.2 | (with_reducible refine Kd.C_alloc ?_ _) | (with_reducible refine Kd.C_drewN ?_ _) | (with_reducible refine Kd.C_drew ?_))); (case side2 => exact (Kd.V_reads' HO304.out).2.1); rintro e w38 ⟨v310, rfl, ho0, hb⟩; refine ⟨_, rfl, ?_⟩; have n0_ := Aside0.mk (Kd.V_elder' (vw_ HO304.out) (Kd.R_base ho0) hb); have n1_ := Aside0.mk (Kd.R_lower ho0 (below_size (hb_ HB))); have n2_ := bb_ BK300 hb; have n3_ := bb_ BK301 hb; have n4_ := bb_ BK307 hb; have n5_ := bs_ HB hb; clear HO304; clear BK300; clear BK301; clear BK307; clear HB; have HO304 := n0_; have HO311 := n1_; have BK300 := n2_; have BK301 := n3_; have BK307 := n4_; have HB := n5_; clear n0_ n1_ n2_ n3_ n4_ n5_; (try clear hb); (try clear hb2); (try clear hk); (try clear hi); (try clear ho0)) | ((with_reducible refine gate_dst (N := 7) rfl ?_); refine box_event ?hg (N := 7) ?hd (cs := #[.slice none 0 0, .int .i64 0]) (t := 102) ?hr ?_; (case hd => rfl); (case hg => rfl); (case hr => first | (go_simp; done) | (go_simp; rfl)); intro gb313 hg w39 hbox hb; have n0_ := Aside0.mk (Kd.V_below (Kd.V_elderB (vw_ HO304.out) gb313 (Nat.le_of_eq hg.symm)) hb); have n1_ := Aside0.mk (Kd.R_below (rw_ HO311.out) hb); have n2_ := bb_ BK300 hb; have n3_ := bb_ BK301 hb; have n4_ := bb_ BK307 hb; have n5_ := bs_ HB hb; have n6_ := Aside0.mk (hbox); have n7_ := gw_ HB hg; have n8_ := gw_ HB hg; have n9_ := ne_ BK300 hg; have n10_ := en_ BK300 hg; have n11_ := ne_ BK301 hg; have n12_ := en_ BK301 hg; have n13_ := ne_ BK307 hg; have n14_ := en_ BK307 hg; clear HO304; clear HO311; clear BK300; clear BK301; clear BK307; clear HB; have HO304 := n0_; have HO311 := n1_; have BK300 := n2_; have BK301 := n3_; have BK307 := n4_; have HB := n5_; have BK313 := n6_; have GW313 := n7_; have GE313 := n8_; have NB300_313 := n9_; have NB313_300 := n10_; have NB301_313 := n11_; have NB313_301 := n12_; have NB307_313 := n13_; have NB313_307 := n14_; clear n0_ n1_ n2_ n3_ n4_ n5_ n6_ n7_ n8_ n9_ n10_ n11_ n12_ n13_ n14_; clear hb hbox hg; obtain ⟨Ao40, co40, eo40⟩ := Kd.R_slice HO311.out; subst eo40; have hnb41 := NB313_300.out; have hnc41 := NB300_313.out; have hnb42 := NB313_301.out; have hnc42 := NB301_313.out; have hnb43 := NB313_307.out; have hnc43 := NB307_313.out; obtain ⟨hcz44_0, hcz44_1, hfz44_0, hfz44_1⟩ := bc2_ BK313))
        have n0_ : Aside0 (Kd.V k69 69 ((w39.setCell ⟨gb313, 0, none⟩ (.slice Ao40 t309.length co40)).setCell ⟨gb313, 1, none⟩ (.int .i64 t312)) w.heap.size (fun k_ => some k_ ≠ (.slice Ao40 t309.length co40 : Value).ownBlock ∧ k_ ≠ gb300 ∧ k_ ≠ gb301 ∧ k_ ≠ gb307 ∧ k_ ≠ gb313) (.slice Ao32 t302.length co32) t302) := ⟨by (with_reducible repeat (first | apply Kd.V_alloc | apply Kd.V_drewN | apply Kd.V_drew)); exact Kd.V_mono (Kd.V_far (p := ⟨gb313, 1, none⟩) (Kd.V_far (p := ⟨gb313, 0, none⟩) (Kd.V_mono HO304.out (fun k_ hk => (⟨hk, hk.2⟩ : _ ∧ k_ ≠ gb313))) (fun _ hk => hk.2) (.slice Ao40 t309.length co40)) (fun _ hk => hk.2) (.int .i64 t312)) (fun _ hk => ⟨hk.1.1.2, ⟨hk.1.1.1.1.1, ⟨hk.1.1.1.1.2, ⟨hk.1.1.1.2, hk.1.2⟩⟩⟩⟩)⟩
        have n1_ : Aside0 (Kd.R k69 69 ((w39.setCell ⟨gb313, 0, none⟩ (.slice Ao40 t309.length co40)).setCell ⟨gb313, 1, none⟩ (.int .i64 t312)) w.heap.size (fun _ => True) (.slice Ao40 t309.length co40) t309) := ⟨by (with_reducible repeat (first | apply Kd.R_alloc | apply Kd.R_drewN | apply Kd.R_drew)); exact Kd.R_mono (Kd.R_far (p := ⟨gb313, 1, none⟩) (Kd.R_far (p := ⟨gb313, 0, none⟩) (Kd.R_types HO311.out BK313.out (by decide)) (fun _ hk => hk.2) (.slice Ao40 t309.length co40)) (fun _ hk => hk.2) (.int .i64 t312)) (fun _ hk => trivial)⟩
        have n2_ : Aside0 (((w39.setCell ⟨gb313, 0, none⟩ (.slice Ao40 t309.length co40)).setCell ⟨gb313, 1, none⟩ (.int .i64 t312)).heap[gb300]? = some (.cells #[.slice A0_0 l0_0.length c0_0, .int .i64 a0_1] 46 (0, 0))) := ⟨bp_ BK300.out⟩
        have n3_ : Aside0 (((w39.setCell ⟨gb313, 0, none⟩ (.slice Ao40 t309.length co40)).setCell ⟨gb313, 1, none⟩ (.int .i64 t312)).heap[gb301]? = some (.cells #[.slice none 0 0, .int .i64 0] 46 (0, 0))) := ⟨bp_ BK301.out⟩
        have n4_ : Aside0 (((w39.setCell ⟨gb313, 0, none⟩ (.slice Ao40 t309.length co40)).setCell ⟨gb313, 1, none⟩ (.int .i64 t312)).heap[gb307]? = some (.cells #[.slice Ao32 t302.length co32, .int .i64 t305, .bool true] 104 (0, 0))) := ⟨bp_ BK307.out⟩
        have n5_ : Aside0 (((w39.setCell ⟨gb313, 0, none⟩ (.slice Ao40 t309.length co40)).setCell ⟨gb313, 1, none⟩ (.int .i64 t312)).heap[gb313]? = some (.cells #[.slice Ao40 t309.length co40, .int .i64 t312] 102 (0, 0))) := ⟨bp_ BK313.out⟩
        have n6_ : Aside0 (Below w.heap.size w ((w39.setCell ⟨gb313, 0, none⟩ (.slice Ao40 t309.length co40)).setCell ⟨gb313, 1, none⟩ (.int .i64 t312))) := ⟨hb_ HB⟩
        (try clear HO304)
        (try clear HO311)
        (try clear BK300)
        (try clear BK301)
        (try clear BK307)
        (try clear BK313)
        (try clear HB)
        generalize ((w39.setCell ⟨gb313, 0, none⟩ (.slice Ao40 t309.length co40)).setCell ⟨gb313, 1, none⟩ (.int .i64 t312)) = w45 at n0_ n1_ n2_ n3_ n4_ n5_ n6_ ⊢
        have HO304 := n0_
        have HO311 := n1_
        have BK300 := n2_
        have BK301 := n3_
        have BK307 := n4_
        have BK313 := n5_
        have HB := n6_
        clear n0_ n1_ n2_ n3_ n4_ n5_ n6_
        have n0_ := Aside0.mk (Kd.V_drew HO304.out)
        have n1_ := Aside0.mk (Kd.R_drew HO311.out)
        have n2_ := Aside0.mk (blk_drew BK300.out)
        have n3_ := Aside0.mk (blk_drew BK301.out)
        have n4_ := Aside0.mk (blk_drew BK307.out)
        have n5_ := Aside0.mk (blk_drew BK313.out)
        have n6_ := Aside0.mk (below_drew1 HB.out)
        clear HO304
        clear HO311
        clear BK300
        clear BK301
        clear BK307
        clear BK313
        clear HB
        have HO304 := n0_
        have HO311 := n1_
        have BK300 := n2_
        have BK301 := n3_
        have BK307 := n4_
        have BK313 := n5_
        have HB := n6_
        clear n0_ n1_ n2_ n3_ n4_ n5_ n6_
        have p314 : 0 ≤ (a1 : Int) := of_decide_eq_true as_
        have q314 : a1 < (t309.length : Int) := of_decide_eq_true as_
        obtain ⟨ad314, e314, hx314_0, hx314_1, hx314_2, hx314_3, hx314_4, hx314_5, hx314_6⟩ := at_T69 (Kd.R_reads' HO311.out).2.2 a1 p314 q314
        cases e314
        replace p314 := eq_true p314
        replace q314 := eq_true q314
        have p25 : 0 ≤ (((rd_T69 t309 a1).f0) : Int) := of_decide_eq_true as_
        have q25 : (((rd_T69 t309 a1).f0) : Int) < ((t309.length : Int) : Int) := of_decide_eq_true as_
        obtain ⟨go25, co25, eo25, gb25, gl25, cl25, HG25⟩ := Kd.R_form HO311.out (by omega)
        (first | cases eo25 | (injection eo25 with ea_ en_ ec_; (first | subst ea_ | (injection ea_ with ea_; subst ea_)); subst ec_; clear en_))
        have GB25 := Aside0.mk gb25
        have GG25 := Aside0.mk HG25
        clear gb25 gl25 HG25
        (first | simp only [add_plain] at hx314_0 | skip)
        (first | simp only [add_plain] at hx314_1 | skip)
        (first | simp only [add_plain] at hx314_2 | skip)
        (first | simp only [add_plain] at hx314_3 | skip)
        (first | simp only [add_plain] at hx314_4 | skip)
        (first | simp only [add_plain] at hx314_5 | skip)
        (first | simp only [add_plain] at hx314_6 | skip)
        obtain ⟨ce25, hcl25, hM25, hcc25, hfr25⟩ := Kd.R_elem HO311.out z69 (((rd_T69 t309 a1).f0) : Int) p25 q25
        obtain rfl := k69_openM hM25
        have hx25_0 : World.cell? _ ⟨go25, (((rd_T69 t309 a1).f0) : Int).toNat * 7, none⟩ = some (.int .i64 ((rd_T69 t309 ((rd_T69 t309 a1).f0)).f0)) := hcc25 0 _ rfl
        have hx25_1 : World.cell? _ ⟨go25, (((rd_T69 t309 a1).f0) : Int).toNat * 7 + 1, none⟩ = some (.int .i64 ((rd_T69 t309 ((rd_T69 t309 a1).f0)).f1)) := hcc25 1 _ rfl
        have hx25_2 : World.cell? _ ⟨go25, (((rd_T69 t309 a1).f0) : Int).toNat * 7 + 2, none⟩ = some (.int .i64 ((rd_T69 t309 ((rd_T69 t309 a1).f0)).f2)) := hcc25 2 _ rfl
        have hx25_3 : World.cell? _ ⟨go25, (((rd_T69 t309 a1).f0) : Int).toNat * 7 + 3, none⟩ = some (.int .i64 ((rd_T69 t309 ((rd_T69 t309 a1).f0)).f3)) := hcc25 3 _ rfl
        have hx25_4 : World.cell? _ ⟨go25, (((rd_T69 t309 a1).f0) : Int).toNat * 7 + 4, none⟩ = some (.int .i64 ((rd_T69 t309 ((rd_T69 t309 a1).f0)).f4.f0)) := hcc25 4 _ rfl
        have hx25_5 : World.cell? _ ⟨go25, (((rd_T69 t309 a1).f0) : Int).toNat * 7 + 5, none⟩ = some (.string ((rd_T69 t309 ((rd_T69 t309 a1).f0)).f4.f1)) := hcc25 5 _ rfl
        have hx25_6 : World.cell? _ ⟨go25, (((rd_T69 t309 a1).f0) : Int).toNat * 7 + 6, none⟩ = some (.string ((rd_T69 t309 ((rd_T69 t309 a1).f0)).f4.f2)) := hcc25 6 _ rfl
        have hf25_0 : World.frozen? _ ⟨go25, (((rd_T69 t309 a1).f0) : Int).toNat * 7, none⟩ = false := hfr25 0
        have hf25_1 : World.frozen? _ ⟨go25, (((rd_T69 t309 a1).f0) : Int).toNat * 7 + 1, none⟩ = false := hfr25 1
        have hf25_2 : World.frozen? _ ⟨go25, (((rd_T69 t309 a1).f0) : Int).toNat * 7 + 2, none⟩ = false := hfr25 2
        have hf25_3 : World.frozen? _ ⟨go25, (((rd_T69 t309 a1).f0) : Int).toNat * 7 + 3, none⟩ = false := hfr25 3
        have hf25_4 : World.frozen? _ ⟨go25, (((rd_T69 t309 a1).f0) : Int).toNat * 7 + 4, none⟩ = false := hfr25 4
        have hf25_5 : World.frozen? _ ⟨go25, (((rd_T69 t309 a1).f0) : Int).toNat * 7 + 5, none⟩ = false := hfr25 5
        have hf25_6 : World.frozen? _ ⟨go25, (((rd_T69 t309 a1).f0) : Int).toNat * 7 + 6, none⟩ = false := hfr25 6
        clear hcl25 hcc25 hfr25 hM25
        replace p25 := eq_true p25
        replace q25 := eq_true q25
        obtain ⟨ce47, hcl47, hM47, hcc47, hfr47⟩ := Kd.R_elem HO311.out z69 (((rd_T69 t309 a1).f0) : Int) (of_decide_eq_true as_) (by have h_ : (((rd_T69 t309 a1).f0) : Int) < ((t309.length : Int) : Int) := of_decide_eq_true as_; first | exact h_ | (have e_ := (Kd.R_reads' HO311.out).1; omega) | simpa using h_)
        obtain rfl := k69_openM hM47
        have HP47 := (Kd.R_seg HO311.out (((rd_T69 t309 a1).f0) : Int) (of_decide_eq_true as_) (by have h_ : (((rd_T69 t309 a1).f0) : Int) < ((t309.length : Int) : Int) := of_decide_eq_true as_; first | exact h_ | (have e_ := (Kd.R_reads' HO311.out).1; omega) | simpa using h_) (seg := [.int .i64 a1]) (j := 1) hcl47 hcc47 (show 2 ≤ 7 from by decide) (x' := (⟨(rd_T69 t309 ((rd_T69 t309 a1).f0)).f0, a1, (rd_T69 t309 ((rd_T69 t309 a1).f0)).f2, (rd_T69 t309 ((rd_T69 t309 a1).f0)).f3, (⟨(rd_T69 t309 ((rd_T69 t309 a1).f0)).f4.f0, (rd_T69 t309 ((rd_T69 t309 a1).f0)).f4.f1, (rd_T69 t309 ((rd_T69 t309 a1).f0)).f4.f2⟩ : S24)⟩ : S69)) (k69_mkM _ _ _ (⟨(rd_T69 t309 ((rd_T69 t309 a1).f0)).f0, a1, (rd_T69 t309 ((rd_T69 t309 a1).f0)).f2, (rd_T69 t309 ((rd_T69 t309 a1).f0)).f3, (⟨(rd_T69 t309 ((rd_T69 t309 a1).f0)).f4.f0, (rd_T69 t309 ((rd_T69 t309 a1).f0)).f4.f1, (rd_T69 t309 ((rd_T69 t309 a1).f0)).f4.f2⟩ : S24)⟩ : S69) ) (fun _ hk => hk)).1
        rw [← Ny315.out] at HP47
        have HQ47 := Aside0.mk HP47
        clear hcl47 hcc47 hfr47 hM47 HP47
        refine start_ (n := 14) (S := fun w' => w'.cell? ⟨gb313, 0, none⟩ = some (.slice (some ⟨go25, 0, none⟩) t309.length co40) ∧ w'.cell? ⟨gb313, 1, none⟩ = some (.int .i64 t312) ∧ w'.cell? ⟨go25, ((a1).toNat * 7), none⟩ = some (.int .i64 ((rd_T69 t309 a1).f0)) ∧ w'.cell? ⟨go25, ((a1).toNat * 7) + 1, none⟩ = some (.int .i64 ((rd_T69 t309 a1).f1)) ∧ w'.cell? ⟨go25, ((a1).toNat * 7) + 2, none⟩ = some (.int .i64 ((rd_T69 t309 a1).f2)) ∧ w'.cell? ⟨go25, ((a1).toNat * 7) + 3, none⟩ = some (.int .i64 ((rd_T69 t309 a1).f3)) ∧ w'.cell? ⟨go25, ((a1).toNat * 7) + 4, none⟩ = some (.int .i64 ((rd_T69 t309 a1).f4.f0)) ∧ w'.cell? ⟨go25, ((a1).toNat * 7) + 5, none⟩ = some (.string ((rd_T69 t309 a1).f4.f1)) ∧ w'.cell? ⟨go25, ((a1).toNat * 7) + 6, none⟩ = some (.string ((rd_T69 t309 a1).f4.f2))) (ds := [13]) #[false, false, false, false, false, false, false, false, false, false, false, false, false, false] (by kernel_rfl) rfl rfl ⟨(blk_cell BK313.out 0).trans rfl, (blk_cell BK313.out 1).trans rfl, hx314_0, hx314_1, hx314_2, hx314_3, hx314_4, hx314_5, hx314_6⟩ (fun hHeld => ?_); refine with_tabW tree_Choose.tab7 tree_Choose.bits7 (fun HT_ HW_ => ?_)
        generalize w45.drew = w46 at HO304 HO311 BK300 BK301 BK307 BK313 HB GG25 HQ47 hf25_0 hf25_1 hf25_2 hf25_3 hf25_4 hf25_5 hf25_6 hx25_0 hx25_1 hx25_2 hx25_3 hx25_4 hx25_5 hx25_6 hx314_0 hx314_1 hx314_2 hx314_3 hx314_4 hx314_5 hx314_6 hHeld ⊢
        refine pure_ (i := 0) (N := some 27) (v := ?_) (a' := ?_) #[true, false, false, false, false, false, false, false, false, false, false, false, false, false] rfl rfl (any_of HT_.out (by kernel_rfl)) (fun _ _ _ h => h) (Or.inl ⟨by rfl, ?_⟩) ?_ ?_
        rotate_left
        ·intro w'
         go_simp
         with_reducible rfl
        rotate_left
        ·simp only [Act.put, List.setIfInBounds_toArray, List.set_cons_zero, List.set_cons_succ, i64_w, i32_w]
         rfl
        refine pure_ (i := 1) (N := some 28) (v := ?_) (a' := ?_) #[true, true, false, false, false, false, false, false, false, false, false, false, false, false] rfl rfl (any_of HT_.out (by kernel_rfl)) (fun _ _ _ h => h) (Or.inl ⟨by rfl, ?_⟩) ?_ ?_
        rotate_left
        ·intro w'
         go_simp
         with_reducible rfl
        rotate_left
        ·simp only [Act.put, List.setIfInBounds_toArray, List.set_cons_zero, List.set_cons_succ, i64_w, i32_w]
         rfl
        refine pure_ (i := 3) (N := some 30) (v := ?_) (a' := ?_) #[true, true, false, true, false, false, false, false, false, false, false, false, false, false] rfl rfl (any_of HT_.out (by kernel_rfl)) (fun _ _ _ h => h) (Or.inl ⟨by rfl, ?_⟩) ?_ ?_
        rotate_left
        ·intro w'
         go_simp
         with_reducible rfl
        rotate_left
        ·simp only [Act.put, List.setIfInBounds_toArray, List.set_cons_zero, List.set_cons_succ, i64_w, i32_w]
         rfl
        refine pure_ (i := 4) (N := some 31) (v := ?_) (a' := ?_) #[true, true, false, true, true, false, false, false, false, false, false, false, false, false] rfl rfl (any_of HT_.out (by kernel_rfl)) (fun _ _ _ h => h) (Or.inl ⟨by rfl, ?_⟩) ?_ ?_
        rotate_left
        ·intro w'
         go_simp
         with_reducible rfl
        rotate_left
        ·simp only [Act.put, List.setIfInBounds_toArray, List.set_cons_zero, List.set_cons_succ, i64_w, i32_w]
         rfl
        refine pure_ (i := 6) (N := some 33) (v := ?_) (a' := ?_) #[true, true, false, true, true, false, true, false, false, false, false, false, false, false] rfl rfl (any_of HT_.out (by kernel_rfl)) (fun _ _ _ h => h) (Or.inl ⟨by rfl, ?_⟩) ?_ ?_
        rotate_left
        ·intro w'
         go_simp
         with_reducible rfl
        rotate_left
        ·simp only [Act.put, List.setIfInBounds_toArray, List.set_cons_zero, List.set_cons_succ, i64_w, i32_w]
         rfl
        refine pure_ (i := 10) (N := some 37) (v := ?_) (a' := ?_) #[true, true, false, true, true, false, true, false, false, false, true, false, false, false] rfl rfl (any_of HT_.out (by kernel_rfl)) (fun _ _ _ h => h) (Or.inl ⟨by rfl, ?_⟩) ?_ ?_
        rotate_left
        ·intro w'
         go_simp
         with_reducible rfl
        rotate_left
        ·simp only [Act.put, List.setIfInBounds_toArray, List.set_cons_zero, List.set_cons_succ, i64_w, i32_w]
         rfl
        refine take_ (i := 2) (N := some 29) (v := ?_) (a' := ?_) #[true, true, true, true, true, false, true, false, false, false, true, false, false, false] rfl rfl (take_ofW HT_.out HW_.out (by kernel_rfl)) (fun _ _ _ h => h) (Or.inl ⟨by rfl, ?_⟩) hHeld ?_ ?_
        rotate_left
        ·rintro w' ⟨s0, s1, s2, s3, s4, s5, s6, s7, s8⟩
         go_simp
         with_reducible rfl
        rotate_left
        ·simp only [Act.put, List.setIfInBounds_toArray, List.set_cons_zero, List.set_cons_succ, i64_w, i32_w]
         rfl
        refine take_ (i := 5) (N := some 32) (v := ?_) (a' := ?_) #[true, true, true, true, true, true, true, false, false, false, true, false, false, false] rfl rfl (take_ofW HT_.out HW_.out (by kernel_rfl)) (fun _ _ _ h => h) (Or.inl ⟨by rfl, ?_⟩) hHeld ?_ ?_
        rotate_left
        ·rintro w' ⟨s0, s1, s2, s3, s4, s5, s6, s7, s8⟩
         go_simp
         with_reducible rfl
        rotate_left
        ·simp only [Act.put, List.setIfInBounds_toArray, List.set_cons_zero, List.set_cons_succ, i64_w, i32_w]
         rfl
        refine pure_ (i := 7) (N := some 34) (v := ?_) (a' := ?_) #[true, true, true, true, true, true, true, true, false, false, true, false, false, false] rfl rfl (any_of HT_.out (by kernel_rfl)) (fun _ _ _ h => h) (Or.inl ⟨by rfl, ?_⟩) ?_ ?_
        rotate_left
        ·intro w'
         go_simp
         with_reducible rfl
        rotate_left
        ·simp only [Act.put, List.setIfInBounds_toArray, List.set_cons_zero, List.set_cons_succ, i64_w, i32_w]
         rfl
        refine pure_ (i := 8) (N := some 35) (v := ?_) (a' := ?_) #[true, true, true, true, true, true, true, true, true, false, true, false, false, false] rfl rfl (any_of HT_.out (by kernel_rfl)) (fun _ _ _ h => h) (Or.inl ⟨by rfl, ?_⟩) ?_ ?_
        rotate_left
        ·intro w'
         go_simp
         with_reducible rfl
        rotate_left
        ·simp only [Act.put, List.setIfInBounds_toArray, List.set_cons_zero, List.set_cons_succ, i64_w, i32_w]
         rfl
        refine take_ (i := 9) (N := some 36) (v := ?_) (a' := ?_) #[true, true, true, true, true, true, true, true, true, true, true, false, false, false] rfl rfl (take_ofW HT_.out HW_.out (by kernel_rfl)) (fun _ _ _ h => h) (Or.inl ⟨by rfl, ?_⟩) hHeld ?_ ?_
        rotate_left
        ·rintro w' ⟨s0, s1, s2, s3, s4, s5, s6, s7, s8⟩
         go_simp
         with_reducible rfl
        rotate_left
        ·simp only [Act.put, List.setIfInBounds_toArray, List.set_cons_zero, List.set_cons_succ, i64_w, i32_w]
         rfl
        refine pure_ (i := 11) (N := some 38) (v := ?_) (a' := ?_) #[true, true, true, true, true, true, true, true, true, true, true, true, false, false] rfl rfl (any_of HT_.out (by kernel_rfl)) (fun _ _ _ h => h) (Or.inl ⟨by rfl, ?_⟩) ?_ ?_
        rotate_left
        ·intro w'
         go_simp
         with_reducible rfl
        rotate_left
        ·simp only [Act.put, List.setIfInBounds_toArray, List.set_cons_zero, List.set_cons_succ, i64_w, i32_w]
         rfl
        refine pure_ (i := 12) (N := some 39) (v := ?_) (a' := ?_) #[true, true, true, true, true, true, true, true, true, true, true, true, true, false] rfl rfl (any_of HT_.out (by kernel_rfl)) (fun _ _ _ h => h) (Or.inl ⟨by rfl, ?_⟩) ?_ ?_
        rotate_left
        ·intro w'
         go_simp
         with_reducible rfl
        rotate_left
        ·simp only [Act.put, List.setIfInBounds_toArray, List.set_cons_zero, List.set_cons_succ, i64_w, i32_w]
         rfl
        refine last_ (i := 13) (N := none) #[true, true, true, true, true, true, true, true, true, true, true, true, true, true] rfl rfl (one_of HT_.out (by kernel_rfl)) (by decide) (fun K hK => ?_)
        refine skip_ (w1 := ?_) (by rfl) rfl ?_ ?_
        rotate_left
        ·go_simp
         rfl
        refine hK.out _ _ ?_
        clear hK K
        refine done_ (done_of HT_.out (by kernel_rfl)) ?_
        have n0_ : Aside0 (Kd.V k69 69 (w46.setCell ⟨go25, (((rd_T69 t309 a1).f0) : Int).toNat * 7 + 1, none⟩ (.int .i64 a1)) w.heap.size (fun k_ => some k_ ≠ (.slice (some ⟨go25, 0, none⟩) t309.length co40 : Value).ownBlock ∧ k_ ≠ gb300 ∧ k_ ≠ gb301 ∧ k_ ≠ gb307 ∧ k_ ≠ gb313) (.slice Ao32 t302.length co32) t302) := ⟨by (with_reducible repeat (first | apply Kd.V_alloc | apply Kd.V_drewN | apply Kd.V_drew)); exact Kd.V_mono (Kd.V_far (p := ⟨go25, (((rd_T69 t309 a1).f0) : Int).toNat * 7 + 1, none⟩) (Kd.V_mono HO304.out (fun k_ hk => (⟨hk, fun e_ => hk.1 (by rw [e_]; rfl)⟩ : _ ∧ k_ ≠ go25))) (fun _ hk => hk.2) (.int .i64 a1)) (fun _ hk => ⟨hk.1.1, ⟨hk.1.2.1, ⟨hk.1.2.2.1, ⟨hk.1.2.2.2.1, hk.1.2.2.2.2⟩⟩⟩⟩)⟩
        have n1_ : Aside0 (Kd.R k69 69 (w46.setCell ⟨go25, (((rd_T69 t309 a1).f0) : Int).toNat * 7 + 1, none⟩ (.int .i64 a1)) w.heap.size (fun _ => True) (.slice (some ⟨go25, 0, none⟩) t309.length co40) y315) := ⟨rw_ HQ47.out⟩
        have n2_ : Aside0 ((w46.setCell ⟨go25, (((rd_T69 t309 a1).f0) : Int).toNat * 7 + 1, none⟩ (.int .i64 a1)).heap[gb300]? = some (.cells #[.slice A0_0 l0_0.length c0_0, .int .i64 a0_1] 46 (0, 0))) := ⟨by (with_reducible repeat (first | refine blk_drewN ?_ _ | refine blk_drew ?_ | refine blk_alloc ?_ _)); refine blk_far ?_ (by have h_ := Kd.R_ne HO311.out BK300.out (by decide); intro e_; exact h_ (by rw [e_]; rfl)) _; (with_reducible repeat (first | refine blk_drewN ?_ _ | refine blk_drew ?_ | refine blk_alloc ?_ _)); exact BK300.out⟩
        have n3_ : Aside0 ((w46.setCell ⟨go25, (((rd_T69 t309 a1).f0) : Int).toNat * 7 + 1, none⟩ (.int .i64 a1)).heap[gb301]? = some (.cells #[.slice none 0 0, .int .i64 0] 46 (0, 0))) := ⟨by (with_reducible repeat (first | refine blk_drewN ?_ _ | refine blk_drew ?_ | refine blk_alloc ?_ _)); refine blk_far ?_ (by have h_ := Kd.R_ne HO311.out BK301.out (by decide); intro e_; exact h_ (by rw [e_]; rfl)) _; (with_reducible repeat (first | refine blk_drewN ?_ _ | refine blk_drew ?_ | refine blk_alloc ?_ _)); exact BK301.out⟩
        have n4_ : Aside0 ((w46.setCell ⟨go25, (((rd_T69 t309 a1).f0) : Int).toNat * 7 + 1, none⟩ (.int .i64 a1)).heap[gb307]? = some (.cells #[.slice Ao32 t302.length co32, .int .i64 t305, .bool true] 104 (0, 0))) := ⟨by (with_reducible repeat (first | refine blk_drewN ?_ _ | refine blk_drew ?_ | refine blk_alloc ?_ _)); refine blk_far ?_ (by have h_ := Kd.R_ne HO311.out BK307.out (by decide); intro e_; exact h_ (by rw [e_]; rfl)) _; (with_reducible repeat (first | refine blk_drewN ?_ _ | refine blk_drew ?_ | refine blk_alloc ?_ _)); exact BK307.out⟩
        have n5_ : Aside0 ((w46.setCell ⟨go25, (((rd_T69 t309 a1).f0) : Int).toNat * 7 + 1, none⟩ (.int .i64 a1)).heap[gb313]? = some (.cells #[.slice (some ⟨go25, 0, none⟩) t309.length co40, .int .i64 t312] 102 (0, 0))) := ⟨by (with_reducible repeat (first | refine blk_drewN ?_ _ | refine blk_drew ?_ | refine blk_alloc ?_ _)); refine blk_far ?_ (by have h_ := Kd.R_ne HO311.out BK313.out (by decide); intro e_; exact h_ (by rw [e_]; rfl)) _; (with_reducible repeat (first | refine blk_drewN ?_ _ | refine blk_drew ?_ | refine blk_alloc ?_ _)); exact BK313.out⟩
        have n6_ : Aside0 (Below w.heap.size w (w46.setCell ⟨go25, (((rd_T69 t309 a1).f0) : Int).toNat * 7 + 1, none⟩ (.int .i64 a1))) := ⟨by repeat (first | (with_reducible first | exact HB.out | apply below_alloc | apply pw_below_drewN | apply below_drew1 | refine below_set ?_ GB25.out | refine below_set ?_ GE300.out | refine below_set ?_ GE301.out | refine below_set ?_ GE307.out | refine below_set ?_ GE313.out) | exact HB.out)⟩
        (try clear HO304)
        (try clear HO311)
        (try clear BK300)
        (try clear BK301)
        (try clear BK307)
        (try clear BK313)
        (try clear HB)
        generalize (w46.setCell ⟨go25, (((rd_T69 t309 a1).f0) : Int).toNat * 7 + 1, none⟩ (.int .i64 a1)) = w48 at n0_ n1_ n2_ n3_ n4_ n5_ n6_ ⊢
        have HO304 := n0_
        have HO311 := n1_
        have BK300 := n2_
        have BK301 := n3_
        have BK307 := n4_
        have BK313 := n5_
        have HB := n6_
        clear n0_ n1_ n2_ n3_ n4_ n5_ n6_
        obtain ⟨hcz49_0, hcz49_1, hfz49_0, hfz49_1⟩ := bc2_ BK313
        obtain ⟨hcz50_0, hcz50_1, hfz50_0, hfz50_1⟩ := bc2_ BK301
        try go_wp2
        refine bodyPost_ret (results_ct rfl _ _ gb301 46 #[.slice (some ⟨go25, 0, none⟩) t309.length co40, .int .i64 t312] (0, 0) _ rfl (bp_ BK301.out) Try.underlying46 rfl (by kernel_rfl)) rfl ?_
        exact ⟨_, by first | rfl | (simp [errW_none, errW_some] <;> rfl) | (simp [*, errW_none, errW_some] <;> rfl), by (with_reducible repeat (first | apply Kd.R_alloc | apply Kd.R_drewN | apply Kd.R_drew)); exact Kd.R_mono (Kd.R_far (p := ⟨gb301, 1, none⟩) (Kd.R_far (p := ⟨gb301, 0, none⟩) (Kd.R_types HO311.out BK301.out (by decide)) (fun _ hk => hk.2) (.slice (some ⟨go25, 0, none⟩) t309.length co40)) (fun _ hk => hk.2) (.int .i64 t312)) (fun _ hk => trivial), hb_ HB⟩
       ·rw [if_neg c24] at H
        exact absurd H (by simp)
      ·rw [if_neg c23] at H
       exact absurd H (by simp)
     ·rw [if_neg c22] at H
      exact absurd H (by simp)
    ·rw [if_neg c21] at H
     exact absurd H (by simp)
  ·replace c6 := Bool.eq_false_iff.mpr c6
   subst c6
   have H1 : (some (([] : List (S69)), 0, 7)) = some (r1, r2, r3) := by rw [if_neg (show ¬ (false = true) by decide)] at H; exact H
   clear H
   have H := H1
   clear H1
   simp only [Option.some.injEq, Prod.mk.injEq] at H
   obtain ⟨rfl, rfl, rfl⟩ := H
   go_enter Try.func49, Try.ntmps49
   go_wp2_with (first | ((with_reducible refine gate_dst (N := 2) rfl ?_); refine box_event ?hg (N := 2) ?hd (cs := #[.slice A0_0 l0_0.length c0_0, .int .i64 a0_1]) (t := 46) ?hr ?_; (case hd => rfl); (case hg => rfl); (case hr => first | (go_simp; done) | (go_simp; rfl)); intro gb300 hg w51 hbox hb; have n0_ := bs_ HB hb; have n1_ := Aside0.mk (hbox); have n2_ := gw_ HB hg; have n3_ := gw_ HB hg; clear HB; have HB := n0_; have BK300 := n1_; have GW300 := n2_; have GE300 := n3_; clear n0_ n1_ n2_ n3_; clear hb hbox hg) | ((with_reducible refine gate_dst (N := 4) rfl ?_); refine box_event ?hg (N := 4) ?hd (cs := #[.slice none 0 0, .int .i64 0]) (t := 46) ?hr ?_; (case hd => rfl); (case hg => rfl); (case hr => first | (go_simp; done) | (go_simp; rfl)); intro gb301 hg w52 hbox hb; have n0_ := bb_ BK300 hb; have n1_ := bs_ HB hb; have n2_ := Aside0.mk (hbox); have n3_ := gw_ HB hg; have n4_ := gw_ HB hg; have n5_ := ne_ BK300 hg; have n6_ := en_ BK300 hg; clear BK300; clear HB; have BK300 := n0_; have HB := n1_; have BK301 := n2_; have GW301 := n3_; have GE301 := n4_; have NB300_301 := n5_; have NB301_300 := n6_; clear n0_ n1_ n2_ n3_ n4_ n5_ n6_; clear hb hbox hg; have hnb53 := NB300_301.out; have hnc53 := NB301_300.out; obtain ⟨hcz54_0, hcz54_1, hfz54_0, hfz54_1⟩ := bc2_ BK300) | ((with_reducible refine gate_callee (f := 79) rfl ?_); refine goesL_ (some 9) rfl rfl Try.func79 (by kernel_rfl) rfl #[.agg #[.slice A0_0 l0_0.length c0_0, .int .i64 a0_1]] rfl (by (try simp only [List.map_toArray, List.map_cons, List.map_nil]); first | done | rfl | (simp only [List.length_drop, List.length_take]; rfl)) ?_; (with_reducible refine (tree_open.calls k (fun k_ => k_ < w.heap.size) _ _ l0_0 a0_1 t302 t305 true _ ?side1 A3.out).mono ?_); (case side1 => exact Kd.V_mk HC0_0.out (Kd.F_below (Kd.C_F k69_heap HR0_0.out) (hb_ HB))); rintro e w55 ⟨v303, rfl, ho0, hb⟩; refine ⟨_, rfl, ?_⟩; have n0_ := Aside0.mk (Kd.V_lower (Kd.V_mono (ok' := fun k_ => k_ ≠ gb300 ∧ k_ ≠ gb301) ho0 (fun k_ hk_ => ⟨Or.elim hk_ (fun hs_ => fun e_ => Nat.not_le.2 hs_ (by rw [e_]; exact GW300.out)) (fun hn_ => (Kd.freshB (g := gb300) (o := .cells #[.slice A0_0 l0_0.length c0_0, .int .i64 a0_1] 46 (0, 0)) (bw_ BK300.out) k_ hn_)), Or.elim hk_ (fun hs_ => fun e_ => Nat.not_le.2 hs_ (by rw [e_]; exact GW301.out)) (fun hn_ => (Kd.freshB (g := gb301) (o := .cells #[.slice none 0 0, .int .i64 0] 46 (0, 0)) (bw_ BK301.out) k_ hn_))⟩)) (below_size (hb_ HB))); have n1_ := bb_ BK300 hb; have n2_ := bb_ BK301 hb; have n3_ := bs_ HB hb; clear BK300; clear BK301; clear HB; have HO304 := n0_; have BK300 := n1_; have BK301 := n2_; have HB := n3_; clear n0_ n1_ n2_ n3_; (try clear hb); (try clear hb2); (try clear hk); (try clear hi); (try clear ho0)) | ((with_reducible refine gate_dst (N := 6) rfl ?_); refine box_event ?hg (N := 6) ?hd (cs := #[.slice none 0 0, .int .i64 0, .bool false]) (t := 104) ?hr ?_; (case hd => rfl); (case hg => rfl); (case hr => first | (go_simp; done) | (go_simp; rfl)); intro gb307 hg w56 hbox hb; have n0_ := Aside0.mk (Kd.V_below (Kd.V_elderB (vw_ HO304.out) gb307 (Nat.le_of_eq hg.symm)) hb); have n1_ := bb_ BK300 hb; have n2_ := bb_ BK301 hb; have n3_ := bs_ HB hb; have n4_ := Aside0.mk (hbox); have n5_ := gw_ HB hg; have n6_ := gw_ HB hg; have n7_ := ne_ BK300 hg; have n8_ := en_ BK300 hg; have n9_ := ne_ BK301 hg; have n10_ := en_ BK301 hg; clear HO304; clear BK300; clear BK301; clear HB; have HO304 := n0_; have BK300 := n1_; have BK301 := n2_; have HB := n3_; have BK307 := n4_; have GW307 := n5_; have GE307 := n6_; have NB300_307 := n7_; have NB307_300 := n8_; have NB301_307 := n9_; have NB307_301 := n10_; clear n0_ n1_ n2_ n3_ n4_ n5_ n6_ n7_ n8_ n9_ n10_; clear hb hbox hg; obtain ⟨Ao57, co57, eo57⟩ := Kd.V_slice HO304.out; subst eo57; have hnb58 := NB307_300.out; have hnc58 := NB300_307.out; have hnb59 := NB307_301.out; have hnc59 := NB301_307.out; obtain ⟨hcz60_0, hcz60_1, hcz60_2, hfz60_0, hfz60_1, hfz60_2⟩ := bc3_ BK307) | ((with_reducible refine gate_callee (f := 85) rfl ?_); refine goesL_ (some 17) rfl rfl Try.func85 (by kernel_rfl) rfl #[.agg #[.slice Ao57 t302.length co57, .int .i64 t305], .int .i64 a1] rfl (by (try simp only [List.map_toArray, List.map_cons, List.map_nil]); first | done | rfl | (simp only [List.length_drop, List.length_take]; rfl)) ?_; (with_reducible refine (tree_book_has.calls _ _ t302 t305 a1 false _ ?side1 ?side2 A5.out).mono ?_); (case side1 => refine (Kd.V_reads' (e := 69) (base := w.heap.size) (ok := fun k_ => ((k_ ≠ gb300 ∧ k_ ≠ gb301) ∧ k_ ≠ gb307)) (n := t302.length) (c := co57) ?_).2.2; exact (by (with_reducible repeat (first | apply Kd.V_alloc | apply Kd.V_drewN | apply Kd.V_drew)); exact (Kd.V_mono (Kd.V_far (p := ⟨gb307, 2, none⟩) (Kd.V_far (p := ⟨gb307, 1, none⟩) (Kd.V_far (p := ⟨gb307, 0, none⟩) (Kd.V_mono HO304.out (fun k_ hk => (⟨hk, hk.2⟩ : _ ∧ k_ ≠ gb307))) (fun _ hk => hk.2) (.slice Ao57 t302.length co57)) (fun _ hk => hk.2) (.int .i64 t305)) (fun _ hk => hk.2) (.bool true)) (fun _ h_ => h_.1)))); (case side2 => exact (Kd.V_reads' HO304.out).2.1); rintro e w61 ⟨rfl, hb⟩; refine ⟨_, rfl, ?_⟩; have n0_ := Aside0.mk (Kd.V_below (by (with_reducible repeat (first | apply Kd.V_alloc | apply Kd.V_drewN | apply Kd.V_drew)); exact (Kd.V_mono (Kd.V_far (p := ⟨gb307, 2, none⟩) (Kd.V_far (p := ⟨gb307, 1, none⟩) (Kd.V_far (p := ⟨gb307, 0, none⟩) (Kd.V_mono HO304.out (fun k_ hk => (⟨hk, hk.2⟩ : _ ∧ k_ ≠ gb307))) (fun _ hk => hk.2) (.slice Ao57 t302.length co57)) (fun _ hk => hk.2) (.int .i64 t305)) (fun _ hk => hk.2) (.bool true)) (fun _ h_ => h_.1))) hb); have n1_ := Aside0.mk (blk_below (g := gb300) (o := .cells #[.slice A0_0 l0_0.length c0_0, .int .i64 a0_1] 46 (0, 0)) (bp_ BK300.out) hb); have n2_ := Aside0.mk (blk_below (g := gb301) (o := .cells #[.slice none 0 0, .int .i64 0] 46 (0, 0)) (bp_ BK301.out) hb); have n3_ := Aside0.mk (blk_below (g := gb307) (o := .cells #[.slice Ao57 t302.length co57, .int .i64 t305, .bool true] 104 (0, 0)) (bp_ BK307.out) hb); have n4_ := bs_ HB hb; clear HO304; clear BK300; clear BK301; clear BK307; clear HB; have HO304 := n0_; have BK300 := n1_; have BK301 := n2_; have BK307 := n3_; have HB := n4_; clear n0_ n1_ n2_ n3_ n4_; (try clear hb); (try clear hb2); (try clear hk); (try clear hi); obtain ⟨hcz62_0, hcz62_1, hfz62_0, hfz62_1⟩ := bc2_ BK301))
   refine bodyPost_ret (results_ct rfl _ _ gb301 46 #[.slice none 0 0, .int .i64 0] (0, 0) _ rfl (bp_ BK301.out) Try.underlying46 rfl (by kernel_rfl)) rfl ?_
   exact ⟨_, by first | rfl | (simp [errW_none, errW_some] <;> rfl) | (simp [*, errW_none, errW_some] <;> rfl), by first | exact Kd.R_nil _ _ _ _ _ | exact Kd.N_nil _ _ _ _ _ | exact Kd.V_nil _ _ _ _ _ | exact Kd.Q_nil _ _ _ _ _ | exact Kd.S_nil _ _ _ _ _, hb_ HB⟩
 ·replace c4 := Bool.eq_false_iff.mpr c4
  subst c4
  have H1 : (some (([] : List (S69)), 0, 1)) = some (r1, r2, r3) := by rw [if_neg (show ¬ (false = true) by decide)] at H; exact H
  clear H
  have H := H1
  clear H1
  simp only [Option.some.injEq, Prod.mk.injEq] at H
  obtain ⟨rfl, rfl, rfl⟩ := H
  go_enter Try.func49, Try.ntmps49
  go_wp2_with (first | ((with_reducible refine gate_dst (N := 2) rfl ?_); refine box_event ?hg (N := 2) ?hd (cs := #[.slice A0_0 l0_0.length c0_0, .int .i64 a0_1]) (t := 46) ?hr ?_; (case hd => rfl); (case hg => rfl); (case hr => first | (go_simp; done) | (go_simp; rfl)); intro gb300 hg w63 hbox hb; have n0_ := bs_ HB hb; have n1_ := Aside0.mk (hbox); have n2_ := gw_ HB hg; have n3_ := gw_ HB hg; clear HB; have HB := n0_; have BK300 := n1_; have GW300 := n2_; have GE300 := n3_; clear n0_ n1_ n2_ n3_; clear hb hbox hg) | ((with_reducible refine gate_dst (N := 4) rfl ?_); refine box_event ?hg (N := 4) ?hd (cs := #[.slice none 0 0, .int .i64 0]) (t := 46) ?hr ?_; (case hd => rfl); (case hg => rfl); (case hr => first | (go_simp; done) | (go_simp; rfl)); intro gb301 hg w64 hbox hb; have n0_ := bb_ BK300 hb; have n1_ := bs_ HB hb; have n2_ := Aside0.mk (hbox); have n3_ := gw_ HB hg; have n4_ := gw_ HB hg; have n5_ := ne_ BK300 hg; have n6_ := en_ BK300 hg; clear BK300; clear HB; have BK300 := n0_; have HB := n1_; have BK301 := n2_; have GW301 := n3_; have GE301 := n4_; have NB300_301 := n5_; have NB301_300 := n6_; clear n0_ n1_ n2_ n3_ n4_ n5_ n6_; clear hb hbox hg; have hnb65 := NB300_301.out; have hnc65 := NB301_300.out; obtain ⟨hcz66_0, hcz66_1, hfz66_0, hfz66_1⟩ := bc2_ BK300) | ((with_reducible refine gate_callee (f := 79) rfl ?_); refine goesL_ (some 9) rfl rfl Try.func79 (by kernel_rfl) rfl #[.agg #[.slice A0_0 l0_0.length c0_0, .int .i64 a0_1]] rfl (by (try simp only [List.map_toArray, List.map_cons, List.map_nil]); first | done | rfl | (simp only [List.length_drop, List.length_take]; rfl)) ?_; (with_reducible refine (tree_open.calls k (fun k_ => k_ < w.heap.size) _ _ l0_0 a0_1 t302 t305 false _ ?side1 A3.out).mono ?_); (case side1 => exact Kd.V_mk HC0_0.out (Kd.F_below (Kd.C_F k69_heap HR0_0.out) (hb_ HB))); rintro e w67 ⟨v303, rfl, ho0, hb⟩; refine ⟨_, rfl, ?_⟩; have n0_ := Aside0.mk (Kd.V_lower (Kd.V_mono (ok' := fun k_ => k_ ≠ gb300 ∧ k_ ≠ gb301) ho0 (fun k_ hk_ => ⟨Or.elim hk_ (fun hs_ => fun e_ => Nat.not_le.2 hs_ (by rw [e_]; exact GW300.out)) (fun hn_ => (Kd.freshB (g := gb300) (o := .cells #[.slice A0_0 l0_0.length c0_0, .int .i64 a0_1] 46 (0, 0)) (bw_ BK300.out) k_ hn_)), Or.elim hk_ (fun hs_ => fun e_ => Nat.not_le.2 hs_ (by rw [e_]; exact GW301.out)) (fun hn_ => (Kd.freshB (g := gb301) (o := .cells #[.slice none 0 0, .int .i64 0] 46 (0, 0)) (bw_ BK301.out) k_ hn_))⟩)) (below_size (hb_ HB))); have n1_ := bb_ BK300 hb; have n2_ := bb_ BK301 hb; have n3_ := bs_ HB hb; clear BK300; clear BK301; clear HB; have HO304 := n0_; have BK300 := n1_; have BK301 := n2_; have HB := n3_; clear n0_ n1_ n2_ n3_; (try clear hb); (try clear hb2); (try clear hk); (try clear hi); (try clear ho0)) | ((with_reducible refine gate_dst (N := 6) rfl ?_); refine box_event ?hg (N := 6) ?hd (cs := #[.slice none 0 0, .int .i64 0, .bool false]) (t := 104) ?hr ?_; (case hd => rfl); (case hg => rfl); (case hr => first | (go_simp; done) | (go_simp; rfl)); intro gb307 hg w68 hbox hb; have n0_ := Aside0.mk (Kd.V_below (Kd.V_elderB (vw_ HO304.out) gb307 (Nat.le_of_eq hg.symm)) hb); have n1_ := bb_ BK300 hb; have n2_ := bb_ BK301 hb; have n3_ := bs_ HB hb; have n4_ := Aside0.mk (hbox); have n5_ := gw_ HB hg; have n6_ := gw_ HB hg; have n7_ := ne_ BK300 hg; have n8_ := en_ BK300 hg; have n9_ := ne_ BK301 hg; have n10_ := en_ BK301 hg; clear HO304; clear BK300; clear BK301; clear HB; have HO304 := n0_; have BK300 := n1_; have BK301 := n2_; have HB := n3_; have BK307 := n4_; have GW307 := n5_; have GE307 := n6_; have NB300_307 := n7_; have NB307_300 := n8_; have NB301_307 := n9_; have NB307_301 := n10_; clear n0_ n1_ n2_ n3_ n4_ n5_ n6_ n7_ n8_ n9_ n10_; clear hb hbox hg; obtain ⟨Ao69, co69, eo69⟩ := Kd.V_slice HO304.out; subst eo69; have hnb70 := NB307_300.out; have hnc70 := NB300_307.out; have hnb71 := NB307_301.out; have hnc71 := NB301_307.out; obtain ⟨hcz72_0, hcz72_1, hcz72_2, hfz72_0, hfz72_1, hfz72_2⟩ := bc3_ BK307; obtain ⟨hcz73_0, hcz73_1, hfz73_0, hfz73_1⟩ := bc2_ BK301))
  refine bodyPost_ret (results_ct rfl _ _ gb301 46 #[.slice none 0 0, .int .i64 0] (0, 0) _ rfl (bp_ BK301.out) Try.underlying46 rfl (by kernel_rfl)) rfl ?_
  exact ⟨_, by first | rfl | (simp [errW_none, errW_some] <;> rfl) | (simp [*, errW_none, errW_some] <;> rfl), by first | exact Kd.R_nil _ _ _ _ _ | exact Kd.N_nil _ _ _ _ _ | exact Kd.V_nil _ _ _ _ _ | exact Kd.Q_nil _ _ _ _ _ | exact Kd.S_nil _ _ _ _ _, hb_ HB⟩

/-! ### calamusref11_Choose: function 50 -/
def calamusref11_Choose.f (k : Nat) (l0_0 : List (S69)) (a0_1 : Int) (a1 : Int) : Option ((List (S69)) × Int × Int) := (calamusref11_Right.f k l0_0 a0_1).bind fun t318 => (if t318 = true then ((calamusref11_has.f l0_0 a0_1 a1).bind fun t319 => (if t319 = true then (if a1 = 0 then (some (([] : List (S69)), 0, 7)) else ((calamusref11_with.f k l0_0 a0_1 (([a1] : List Int)) a0_1).bind fun bt323 => (some (bt323.1, bt323.2, 0)))) else (some (([] : List (S69)), 0, 7)))) else (some (([] : List (S69)), 0, 1)))
theorem calamusref11_Choose.mono : ∀ a0 a1 a2 k, LeO (calamusref11_Choose.f k a0 a1 a2) (calamusref11_Choose.f (k + 1) a0 a1 a2) := by
 intro a0 a1 a2 k
 unfold calamusref11_Choose.f
 repeat' first
   | (with_reducible exact calamusref11_Right.mono _ _ _)
   | (with_reducible exact calamusref11_with.mono _ _ _ _ _)
   | (with_reducible exact LeO.refl _)
   | (with_reducible exact LeO.none _)
   | (with_reducible refine LeO.ite ?_ ?_)
   | (with_reducible refine LeO.bind ?_ (fun _ => ?_))
   | exact calamusref11_Right.mono _ _ _
   | exact calamusref11_with.mono _ _ _ _ _
   | exact LeO.none _
   | refine LeO.ite ?_ ?_
   | refine LeO.bind ?_ (fun _ => ?_)
set_option maxHeartbeats 8000000 in
set_option maxRecDepth 100000 in
theorem calamusref11_Choose.calls (k : Nat) (A0_0 : Option Addr) (c0_0 : Nat) (l0_0 : List (S69)) (a0_1 : Int) (a1 : Int) (r1 : List (S69)) (r2 : Int) (r3 : Int) (w : World) (hr0_0 : Kd.C k69 w A0_0 l0_0.length l0_0) (hc0_0 : l0_0.length ≤ c0_0) (h : calamusref11_Choose.f k l0_0 a0_1 a1 = some (r1, r2, r3)) :
  Calls Try.prog 50 #[.agg #[.slice A0_0 l0_0.length c0_0, .int .i64 a0_1], .int .i64 a1] w fun e w' => ∃ v0_ : Value, e = .returned (.tuple #[.agg #[v0_, .int .i64 r2], .int .i64 r3]) ∧ Kd.R k69 69 w' w.heap.size (fun _ => True) v0_ r1 ∧ Below w.heap.size w w' := by
 have hu46 := Try.underlying46
 have HR0_0 := Aside0.mk hr0_0
 have HC0_0 := Aside0.mk hc0_0
 clear hr0_0 hc0_0
 have HB := Aside0.mk (Below.refl w.heap.size w)
 have H : ((calamusref11_Right.f k l0_0 a0_1).bind fun t318 => (if t318 = true then ((calamusref11_has.f l0_0 a0_1 a1).bind fun t319 => (if t319 = true then (if a1 = 0 then (some (([] : List (S69)), 0, 7)) else ((calamusref11_with.f k l0_0 a0_1 (([a1] : List Int)) a0_1).bind fun bt323 => (some (bt323.1, bt323.2, 0)))) else (some (([] : List (S69)), 0, 7)))) else (some (([] : List (S69)), 0, 1)))) = some (r1, r2, r3) := h
 clear h
 replace H := Option.bind_eq_some_iff.mp H
 obtain ⟨t318, A30, H⟩ := H
 replace H : (if t318 = true then ((calamusref11_has.f l0_0 a0_1 a1).bind fun t319 => (if t319 = true then (if a1 = 0 then (some (([] : List (S69)), 0, 7)) else ((calamusref11_with.f k l0_0 a0_1 (([a1] : List Int)) a0_1).bind fun bt323 => (some (bt323.1, bt323.2, 0)))) else (some (([] : List (S69)), 0, 7)))) else (some (([] : List (S69)), 0, 1))) = some (r1, r2, r3) := H
 have A3 := Aside0.mk A30
 clear A30
 by_cases c4 : t318 = true
 ·subst c4
  have H1 : ((calamusref11_has.f l0_0 a0_1 a1).bind fun t319 => (if t319 = true then (if a1 = 0 then (some (([] : List (S69)), 0, 7)) else ((calamusref11_with.f k l0_0 a0_1 (([a1] : List Int)) a0_1).bind fun bt323 => (some (bt323.1, bt323.2, 0)))) else (some (([] : List (S69)), 0, 7)))) = some (r1, r2, r3) := by rw [if_pos rfl] at H; exact H
  clear H
  have H := H1
  clear H1
  replace H := Option.bind_eq_some_iff.mp H
  obtain ⟨t319, A50, H⟩ := H
  replace H : (if t319 = true then (if a1 = 0 then (some (([] : List (S69)), 0, 7)) else ((calamusref11_with.f k l0_0 a0_1 (([a1] : List Int)) a0_1).bind fun bt323 => (some (bt323.1, bt323.2, 0)))) else (some (([] : List (S69)), 0, 7))) = some (r1, r2, r3) := H
  have A5 := Aside0.mk A50
  clear A50
  by_cases c6 : t319 = true
  ·subst c6
   have H1 : (if a1 = 0 then (some (([] : List (S69)), 0, 7)) else ((calamusref11_with.f k l0_0 a0_1 (([a1] : List Int)) a0_1).bind fun bt323 => (some (bt323.1, bt323.2, 0)))) = some (r1, r2, r3) := by rw [if_pos rfl] at H; exact H
   clear H
   have H := H1
   clear H1
   by_cases c7 : a1 = 0
   ·rw [if_pos c7] at H
    have c7b0 : (a1 == 0) = true := beq_iff_eq.mpr c7
    have c7b1 : (a1 != 0) = false := bne_eq_false_iff_eq.mpr c7
    clear c7
    simp only [Option.some.injEq, Prod.mk.injEq] at H
    obtain ⟨rfl, rfl, rfl⟩ := H
    go_enter Try.func50, Try.ntmps50
    go_wp2_with (first | ((with_reducible refine gate_dst (N := 2) rfl ?_); refine box_event ?hg (N := 2) ?hd (cs := #[.slice A0_0 l0_0.length c0_0, .int .i64 a0_1]) (t := 46) ?hr ?_; (case hd => rfl); (case hg => rfl); (case hr => first | (go_simp; done) | (go_simp; rfl)); intro gb316 hg w8 hbox hb; have n0_ := bs_ HB hb; have n1_ := Aside0.mk (hbox); have n2_ := gw_ HB hg; have n3_ := gw_ HB hg; clear HB; have HB := n0_; have BK316 := n1_; have GW316 := n2_; have GE316 := n3_; clear n0_ n1_ n2_ n3_; clear hb hbox hg) | ((with_reducible refine gate_dst (N := 4) rfl ?_); refine box_event ?hg (N := 4) ?hd (cs := #[.slice none 0 0, .int .i64 0]) (t := 46) ?hr ?_; (case hd => rfl); (case hg => rfl); (case hr => first | (go_simp; done) | (go_simp; rfl)); intro gb317 hg w9 hbox hb; have n0_ := bb_ BK316 hb; have n1_ := bs_ HB hb; have n2_ := Aside0.mk (hbox); have n3_ := gw_ HB hg; have n4_ := gw_ HB hg; have n5_ := ne_ BK316 hg; have n6_ := en_ BK316 hg; clear BK316; clear HB; have BK316 := n0_; have HB := n1_; have BK317 := n2_; have GW317 := n3_; have GE317 := n4_; have NB316_317 := n5_; have NB317_316 := n6_; clear n0_ n1_ n2_ n3_ n4_ n5_ n6_; clear hb hbox hg; have hnb10 := NB316_317.out; have hnc10 := NB317_316.out; obtain ⟨hcz11_0, hcz11_1, hfz11_0, hfz11_1⟩ := bc2_ BK316) | ((with_reducible refine gate_callee (f := 37) rfl ?_); refine goesL_ (some 7) rfl rfl Try.func37 (by kernel_rfl) rfl #[.agg #[.slice A0_0 l0_0.length c0_0, .int .i64 a0_1]] rfl (by (try simp only [List.map_toArray, List.map_cons, List.map_nil]); first | done | rfl | (simp only [List.length_drop, List.length_take]; rfl)) ?_; (with_reducible refine (calamusref11_Right.calls k _ _ l0_0 a0_1 true _ ?side1 ?side2 A3.out).mono ?_); (case side1 => exact cw_ (Kd.C_below HR0_0.out HB.out)); (case side2 => exact HC0_0.out); rintro e w12 ⟨rfl, hb⟩; refine ⟨_, rfl, ?_⟩; have n0_ := bb_ BK316 hb; have n1_ := bb_ BK317 hb; have n2_ := bs_ HB hb; clear BK316; clear BK317; clear HB; have BK316 := n0_; have BK317 := n1_; have HB := n2_; clear n0_ n1_ n2_; (try clear hb); (try clear hb2); (try clear hk); (try clear hi); obtain ⟨hcz13_0, hcz13_1, hfz13_0, hfz13_1⟩ := bc2_ BK316) | ((with_reducible refine gate_callee (f := 82) rfl ?_); refine goesL_ (some 12) rfl rfl Try.func82 (by kernel_rfl) rfl #[.agg #[.slice A0_0 l0_0.length c0_0, .int .i64 a0_1], .int .i64 a1] rfl (by (try simp only [List.map_toArray, List.map_cons, List.map_nil]); first | done | rfl | (simp only [List.length_drop, List.length_take]; rfl)) ?_; (with_reducible refine (calamusref11_has.calls _ _ l0_0 a0_1 a1 true _ ?side1 ?side2 A5.out).mono ?_); (case side1 => exact cw_ (Kd.C_below HR0_0.out HB.out)); (case side2 => exact HC0_0.out); rintro e w14 ⟨rfl, hb⟩; refine ⟨_, rfl, ?_⟩; have n0_ := bb_ BK316 hb; have n1_ := bb_ BK317 hb; have n2_ := bs_ HB hb; clear BK316; clear BK317; clear HB; have BK316 := n0_; have BK317 := n1_; have HB := n2_; clear n0_ n1_ n2_; (try clear hb); (try clear hb2); (try clear hk); (try clear hi); obtain ⟨hcz15_0, hcz15_1, hfz15_0, hfz15_1⟩ := bc2_ BK317))
    refine bodyPost_ret (results_ct rfl _ _ gb317 46 #[.slice none 0 0, .int .i64 0] (0, 0) _ rfl (bp_ BK317.out) Try.underlying46 rfl (by kernel_rfl)) rfl ?_
    exact ⟨_, by first | rfl | (simp [errW_none, errW_some] <;> rfl) | (simp [*, errW_none, errW_some] <;> rfl), by first | exact Kd.R_nil _ _ _ _ _ | exact Kd.N_nil _ _ _ _ _ | exact Kd.V_nil _ _ _ _ _ | exact Kd.Q_nil _ _ _ _ _ | exact Kd.S_nil _ _ _ _ _, hb_ HB⟩
   ·rw [if_neg c7] at H
    have c7b0 : (a1 == 0) = false := beq_eq_false_iff_ne.mpr c7
    have c7b1 : (a1 != 0) = true := bne_iff_ne.mpr c7
    obtain ⟨y320, hy320⟩ : ∃ y_ : List Int, y_ = (([a1] : List Int)) := ⟨_, rfl⟩
    replace H : ((calamusref11_with.f k l0_0 a0_1 y320 a0_1).bind fun bt323 => (some (bt323.1, bt323.2, 0))) = some (r1, r2, r3) := by first | (rw [hy320]; with_reducible exact H) | (have H2_ := (Option.bind_some _ _).symm.trans H; rw [hy320]; with_reducible exact H2_) | (have H2_ := (Option.bind_some _ _).symm.trans H; with_reducible exact H2_) | with_reducible exact H | (rw [hy320]; exact H) | exact H
    have Ny320 := Aside0.mk hy320
    clear hy320
    replace H := Option.bind_eq_some_iff.mp H
    obtain ⟨⟨t323, t326⟩, A160, H⟩ := H
    replace H : (some (t323, t326, 0)) = some (r1, r2, r3) := H
    have A16 := Aside0.mk A160
    clear A160
    simp only [Option.some.injEq, Prod.mk.injEq] at H
    obtain ⟨rfl, rfl, rfl⟩ := H
    go_enter Try.func50, Try.ntmps50
    go_wp2_with (first | ((with_reducible refine gate_dst (N := 2) rfl ?_); refine box_event ?hg (N := 2) ?hd (cs := #[.slice A0_0 l0_0.length c0_0, .int .i64 a0_1]) (t := 46) ?hr ?_; (case hd => rfl); (case hg => rfl); (case hr => first | (go_simp; done) | (go_simp; rfl)); intro gb316 hg w17 hbox hb; have n0_ := bs_ HB hb; have n1_ := Aside0.mk (hbox); have n2_ := gw_ HB hg; have n3_ := gw_ HB hg; clear HB; have HB := n0_; have BK316 := n1_; have GW316 := n2_; have GE316 := n3_; clear n0_ n1_ n2_ n3_; clear hb hbox hg) | ((with_reducible refine gate_dst (N := 4) rfl ?_); refine box_event ?hg (N := 4) ?hd (cs := #[.slice none 0 0, .int .i64 0]) (t := 46) ?hr ?_; (case hd => rfl); (case hg => rfl); (case hr => first | (go_simp; done) | (go_simp; rfl)); intro gb317 hg w18 hbox hb; have n0_ := bb_ BK316 hb; have n1_ := bs_ HB hb; have n2_ := Aside0.mk (hbox); have n3_ := gw_ HB hg; have n4_ := gw_ HB hg; have n5_ := ne_ BK316 hg; have n6_ := en_ BK316 hg; clear BK316; clear HB; have BK316 := n0_; have HB := n1_; have BK317 := n2_; have GW317 := n3_; have GE317 := n4_; have NB316_317 := n5_; have NB317_316 := n6_; clear n0_ n1_ n2_ n3_ n4_ n5_ n6_; clear hb hbox hg; have hnb19 := NB316_317.out; have hnc19 := NB317_316.out; obtain ⟨hcz20_0, hcz20_1, hfz20_0, hfz20_1⟩ := bc2_ BK316) | ((with_reducible refine gate_callee (f := 37) rfl ?_); refine goesL_ (some 7) rfl rfl Try.func37 (by kernel_rfl) rfl #[.agg #[.slice A0_0 l0_0.length c0_0, .int .i64 a0_1]] rfl (by (try simp only [List.map_toArray, List.map_cons, List.map_nil]); first | done | rfl | (simp only [List.length_drop, List.length_take]; rfl)) ?_; (with_reducible refine (calamusref11_Right.calls k _ _ l0_0 a0_1 true _ ?side1 ?side2 A3.out).mono ?_); (case side1 => exact cw_ (Kd.C_below HR0_0.out HB.out)); (case side2 => exact HC0_0.out); rintro e w21 ⟨rfl, hb⟩; refine ⟨_, rfl, ?_⟩; have n0_ := bb_ BK316 hb; have n1_ := bb_ BK317 hb; have n2_ := bs_ HB hb; clear BK316; clear BK317; clear HB; have BK316 := n0_; have BK317 := n1_; have HB := n2_; clear n0_ n1_ n2_; (try clear hb); (try clear hb2); (try clear hk); (try clear hi); obtain ⟨hcz22_0, hcz22_1, hfz22_0, hfz22_1⟩ := bc2_ BK316) | ((with_reducible refine gate_callee (f := 82) rfl ?_); refine goesL_ (some 12) rfl rfl Try.func82 (by kernel_rfl) rfl #[.agg #[.slice A0_0 l0_0.length c0_0, .int .i64 a0_1], .int .i64 a1] rfl (by (try simp only [List.map_toArray, List.map_cons, List.map_nil]); first | done | rfl | (simp only [List.length_drop, List.length_take]; rfl)) ?_; (with_reducible refine (calamusref11_has.calls _ _ l0_0 a0_1 a1 true _ ?side1 ?side2 A5.out).mono ?_); (case side1 => exact cw_ (Kd.C_below HR0_0.out HB.out)); (case side2 => exact HC0_0.out); rintro e w23 ⟨rfl, hb⟩; refine ⟨_, rfl, ?_⟩; have n0_ := bb_ BK316 hb; have n1_ := bb_ BK317 hb; have n2_ := bs_ HB hb; clear BK316; clear BK317; clear HB; have BK316 := n0_; have BK317 := n1_; have HB := n2_; clear n0_ n1_ n2_; (try clear hb); (try clear hb2); (try clear hk); (try clear hi); obtain ⟨hcz24_0, hcz24_1, hfz24_0, hfz24_1⟩ := bc2_ BK316) | ((with_reducible refine gate_dst (N := 21) rfl ?_); refine Kd.R_lit (Kd.int .i64) _ 3 ?hg (N := 21) ?hd (xs := ([a1] : List Int)) (inner := [.int .i64 a1]) (ok := fun _ => True) (okp := fun _ => True) ?hr ?hp (fun _ hk => hk) trivial (Below.refl _ _) (Nat.le_refl _) (by simp) ?_; (case hd => rfl); (case hg => rfl); (case hr => first | (go_simp; done) | (go_simp; rfl)); (case hp => exact (Reps.one (show Kd.M (Kd.int .i64) _ _ _ a1 [.int .i64 a1] from rfl) (Reps.none _ _))); intro v321 w25 ho26 hb hg_ hnew_; clear hg_ hnew_; (first | rw [← Ny320.out] at ho26 | (simp only [Int.reduceToNat] at ho26; rw [← Ny320.out] at ho26)); have n0_ := Aside0.mk (Kd.R_lower ho26 (below_size (hb_ HB))); have n1_ := bb_ BK316 hb; have n2_ := bb_ BK317 hb; have n3_ := bs_ HB hb; clear BK316; clear BK317; clear HB; have HO322 := n0_; have BK316 := n1_; have BK317 := n2_; have HB := n3_; clear n0_ n1_ n2_ n3_; clear hb ho26; obtain ⟨hcz27_0, hcz27_1, hfz27_0, hfz27_1⟩ := bc2_ BK316; obtain ⟨Ao28, co28, eo28⟩ := Kd.R_slice HO322.out; subst eo28) | ((with_reducible refine gate_callee (f := 81) rfl ?_); refine goesL_ (some 24) rfl rfl Try.func81 (by kernel_rfl) rfl #[.agg #[.slice A0_0 l0_0.length c0_0, .int .i64 a0_1], .slice Ao28 y320.length co28, .int .i64 a0_1] rfl (by (try simp only [List.map_toArray, List.map_cons, List.map_nil]); first | done | rfl | (simp only [List.length_drop, List.length_take]; rfl)) ?_; (with_reducible refine (calamusref11_with.calls k _ _ l0_0 a0_1 _ _ y320 a0_1 t323 t326 _ ?side1 ?side2 ?side3 ?side4 A16.out).mono ?_); (case side1 => exact cw_ (Kd.C_below HR0_0.out HB.out)); (case side2 => exact HC0_0.out); (case side3 => repeat (first | exact (Kd.R_reads' HO322.out).2.2 | (with_reducible refine Kd.C_alloc ?_ _) | (with_reducible refine Kd.C_drewN ?_ _) | (with_reducible refine Kd.C_drew ?_))); (case side4 => exact (Kd.R_reads' HO322.out).2.1); rintro e w29 ⟨v324, rfl, ho0, hb⟩; refine ⟨_, rfl, ?_⟩; have n0_ := Aside0.mk (Kd.R_below (rw_ HO322.out) hb); have n1_ := Aside0.mk (Kd.R_lower ho0 (below_size (hb_ HB))); have n2_ := bb_ BK316 hb; have n3_ := bb_ BK317 hb; have n4_ := bs_ HB hb; clear HO322; clear BK316; clear BK317; clear HB; have HO322 := n0_; have HO325 := n1_; have BK316 := n2_; have BK317 := n3_; have HB := n4_; clear n0_ n1_ n2_ n3_ n4_; (try clear hb); (try clear hb2); (try clear hk); (try clear hi); (try clear ho0); obtain ⟨Ao30, co30, eo30⟩ := Kd.R_slice HO325.out; subst eo30; obtain ⟨hcz31_0, hcz31_1, hfz31_0, hfz31_1⟩ := bc2_ BK317))
    refine bodyPost_ret (results_ct rfl _ _ gb317 46 #[.slice Ao30 t323.length co30, .int .i64 t326] (0, 0) _ rfl (bp_ BK317.out) Try.underlying46 rfl (by kernel_rfl)) rfl ?_
    exact ⟨_, by first | rfl | (simp [errW_none, errW_some] <;> rfl) | (simp [*, errW_none, errW_some] <;> rfl), by (with_reducible repeat (first | apply Kd.R_alloc | apply Kd.R_drewN | apply Kd.R_drew)); exact Kd.R_mono (Kd.R_far (p := ⟨gb317, 1, none⟩) (Kd.R_far (p := ⟨gb317, 0, none⟩) (Kd.R_types HO325.out BK317.out (by decide)) (fun _ hk => hk.2) (.slice Ao30 t323.length co30)) (fun _ hk => hk.2) (.int .i64 t326)) (fun _ hk => trivial), hb_ HB⟩
  ·replace c6 := Bool.eq_false_iff.mpr c6
   subst c6
   have H1 : (some (([] : List (S69)), 0, 7)) = some (r1, r2, r3) := by rw [if_neg (show ¬ (false = true) by decide)] at H; exact H
   clear H
   have H := H1
   clear H1
   simp only [Option.some.injEq, Prod.mk.injEq] at H
   obtain ⟨rfl, rfl, rfl⟩ := H
   go_enter Try.func50, Try.ntmps50
   go_wp2_with (first | ((with_reducible refine gate_dst (N := 2) rfl ?_); refine box_event ?hg (N := 2) ?hd (cs := #[.slice A0_0 l0_0.length c0_0, .int .i64 a0_1]) (t := 46) ?hr ?_; (case hd => rfl); (case hg => rfl); (case hr => first | (go_simp; done) | (go_simp; rfl)); intro gb316 hg w32 hbox hb; have n0_ := bs_ HB hb; have n1_ := Aside0.mk (hbox); have n2_ := gw_ HB hg; have n3_ := gw_ HB hg; clear HB; have HB := n0_; have BK316 := n1_; have GW316 := n2_; have GE316 := n3_; clear n0_ n1_ n2_ n3_; clear hb hbox hg) | ((with_reducible refine gate_dst (N := 4) rfl ?_); refine box_event ?hg (N := 4) ?hd (cs := #[.slice none 0 0, .int .i64 0]) (t := 46) ?hr ?_; (case hd => rfl); (case hg => rfl); (case hr => first | (go_simp; done) | (go_simp; rfl)); intro gb317 hg w33 hbox hb; have n0_ := bb_ BK316 hb; have n1_ := bs_ HB hb; have n2_ := Aside0.mk (hbox); have n3_ := gw_ HB hg; have n4_ := gw_ HB hg; have n5_ := ne_ BK316 hg; have n6_ := en_ BK316 hg; clear BK316; clear HB; have BK316 := n0_; have HB := n1_; have BK317 := n2_; have GW317 := n3_; have GE317 := n4_; have NB316_317 := n5_; have NB317_316 := n6_; clear n0_ n1_ n2_ n3_ n4_ n5_ n6_; clear hb hbox hg; have hnb34 := NB316_317.out; have hnc34 := NB317_316.out; obtain ⟨hcz35_0, hcz35_1, hfz35_0, hfz35_1⟩ := bc2_ BK316) | ((with_reducible refine gate_callee (f := 37) rfl ?_); refine goesL_ (some 7) rfl rfl Try.func37 (by kernel_rfl) rfl #[.agg #[.slice A0_0 l0_0.length c0_0, .int .i64 a0_1]] rfl (by (try simp only [List.map_toArray, List.map_cons, List.map_nil]); first | done | rfl | (simp only [List.length_drop, List.length_take]; rfl)) ?_; (with_reducible refine (calamusref11_Right.calls k _ _ l0_0 a0_1 true _ ?side1 ?side2 A3.out).mono ?_); (case side1 => exact cw_ (Kd.C_below HR0_0.out HB.out)); (case side2 => exact HC0_0.out); rintro e w36 ⟨rfl, hb⟩; refine ⟨_, rfl, ?_⟩; have n0_ := bb_ BK316 hb; have n1_ := bb_ BK317 hb; have n2_ := bs_ HB hb; clear BK316; clear BK317; clear HB; have BK316 := n0_; have BK317 := n1_; have HB := n2_; clear n0_ n1_ n2_; (try clear hb); (try clear hb2); (try clear hk); (try clear hi); obtain ⟨hcz37_0, hcz37_1, hfz37_0, hfz37_1⟩ := bc2_ BK316) | ((with_reducible refine gate_callee (f := 82) rfl ?_); refine goesL_ (some 12) rfl rfl Try.func82 (by kernel_rfl) rfl #[.agg #[.slice A0_0 l0_0.length c0_0, .int .i64 a0_1], .int .i64 a1] rfl (by (try simp only [List.map_toArray, List.map_cons, List.map_nil]); first | done | rfl | (simp only [List.length_drop, List.length_take]; rfl)) ?_; (with_reducible refine (calamusref11_has.calls _ _ l0_0 a0_1 a1 false _ ?side1 ?side2 A5.out).mono ?_); (case side1 => exact cw_ (Kd.C_below HR0_0.out HB.out)); (case side2 => exact HC0_0.out); rintro e w38 ⟨rfl, hb⟩; refine ⟨_, rfl, ?_⟩; have n0_ := bb_ BK316 hb; have n1_ := bb_ BK317 hb; have n2_ := bs_ HB hb; clear BK316; clear BK317; clear HB; have BK316 := n0_; have BK317 := n1_; have HB := n2_; clear n0_ n1_ n2_; (try clear hb); (try clear hb2); (try clear hk); (try clear hi); obtain ⟨hcz39_0, hcz39_1, hfz39_0, hfz39_1⟩ := bc2_ BK317))
   refine bodyPost_ret (results_ct rfl _ _ gb317 46 #[.slice none 0 0, .int .i64 0] (0, 0) _ rfl (bp_ BK317.out) Try.underlying46 rfl (by kernel_rfl)) rfl ?_
   exact ⟨_, by first | rfl | (simp [errW_none, errW_some] <;> rfl) | (simp [*, errW_none, errW_some] <;> rfl), by first | exact Kd.R_nil _ _ _ _ _ | exact Kd.N_nil _ _ _ _ _ | exact Kd.V_nil _ _ _ _ _ | exact Kd.Q_nil _ _ _ _ _ | exact Kd.S_nil _ _ _ _ _, hb_ HB⟩
 ·replace c4 := Bool.eq_false_iff.mpr c4
  subst c4
  have H1 : (some (([] : List (S69)), 0, 1)) = some (r1, r2, r3) := by rw [if_neg (show ¬ (false = true) by decide)] at H; exact H
  clear H
  have H := H1
  clear H1
  simp only [Option.some.injEq, Prod.mk.injEq] at H
  obtain ⟨rfl, rfl, rfl⟩ := H
  go_enter Try.func50, Try.ntmps50
  go_wp2_with (first | ((with_reducible refine gate_dst (N := 2) rfl ?_); refine box_event ?hg (N := 2) ?hd (cs := #[.slice A0_0 l0_0.length c0_0, .int .i64 a0_1]) (t := 46) ?hr ?_; (case hd => rfl); (case hg => rfl); (case hr => first | (go_simp; done) | (go_simp; rfl)); intro gb316 hg w40 hbox hb; have n0_ := bs_ HB hb; have n1_ := Aside0.mk (hbox); have n2_ := gw_ HB hg; have n3_ := gw_ HB hg; clear HB; have HB := n0_; have BK316 := n1_; have GW316 := n2_; have GE316 := n3_; clear n0_ n1_ n2_ n3_; clear hb hbox hg) | ((with_reducible refine gate_dst (N := 4) rfl ?_); refine box_event ?hg (N := 4) ?hd (cs := #[.slice none 0 0, .int .i64 0]) (t := 46) ?hr ?_; (case hd => rfl); (case hg => rfl); (case hr => first | (go_simp; done) | (go_simp; rfl)); intro gb317 hg w41 hbox hb; have n0_ := bb_ BK316 hb; have n1_ := bs_ HB hb; have n2_ := Aside0.mk (hbox); have n3_ := gw_ HB hg; have n4_ := gw_ HB hg; have n5_ := ne_ BK316 hg; have n6_ := en_ BK316 hg; clear BK316; clear HB; have BK316 := n0_; have HB := n1_; have BK317 := n2_; have GW317 := n3_; have GE317 := n4_; have NB316_317 := n5_; have NB317_316 := n6_; clear n0_ n1_ n2_ n3_ n4_ n5_ n6_; clear hb hbox hg; have hnb42 := NB316_317.out; have hnc42 := NB317_316.out; obtain ⟨hcz43_0, hcz43_1, hfz43_0, hfz43_1⟩ := bc2_ BK316) | ((with_reducible refine gate_callee (f := 37) rfl ?_); refine goesL_ (some 7) rfl rfl Try.func37 (by kernel_rfl) rfl #[.agg #[.slice A0_0 l0_0.length c0_0, .int .i64 a0_1]] rfl (by (try simp only [List.map_toArray, List.map_cons, List.map_nil]); first | done | rfl | (simp only [List.length_drop, List.length_take]; rfl)) ?_; (with_reducible refine (calamusref11_Right.calls k _ _ l0_0 a0_1 false _ ?side1 ?side2 A3.out).mono ?_); (case side1 => exact cw_ (Kd.C_below HR0_0.out HB.out)); (case side2 => exact HC0_0.out); rintro e w44 ⟨rfl, hb⟩; refine ⟨_, rfl, ?_⟩; have n0_ := bb_ BK316 hb; have n1_ := bb_ BK317 hb; have n2_ := bs_ HB hb; clear BK316; clear BK317; clear HB; have BK316 := n0_; have BK317 := n1_; have HB := n2_; clear n0_ n1_ n2_; (try clear hb); (try clear hb2); (try clear hk); (try clear hi); obtain ⟨hcz45_0, hcz45_1, hfz45_0, hfz45_1⟩ := bc2_ BK317))
  refine bodyPost_ret (results_ct rfl _ _ gb317 46 #[.slice none 0 0, .int .i64 0] (0, 0) _ rfl (bp_ BK317.out) Try.underlying46 rfl (by kernel_rfl)) rfl ?_
  exact ⟨_, by first | rfl | (simp [errW_none, errW_some] <;> rfl) | (simp [*, errW_none, errW_some] <;> rfl), by first | exact Kd.R_nil _ _ _ _ _ | exact Kd.N_nil _ _ _ _ _ | exact Kd.V_nil _ _ _ _ _ | exact Kd.Q_nil _ _ _ _ _ | exact Kd.S_nil _ _ _ _ _, hb_ HB⟩

end Go.Proofs.Ytkiokimpblimcaa.PTreeSteps
