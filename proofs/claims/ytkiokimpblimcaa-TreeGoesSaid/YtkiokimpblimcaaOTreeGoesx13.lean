/- Of the law calamus/calamuslaw11.TreeGoes: what each function that it reaches tells, as a plain Lean function with a proof that the call comes to it; the row out of that. By a program of this repo (wip/tpl/own_print.py). Conditions: none but the row's own. -/
import Derived.Test.YtkiokimpblimcaaOTreeGoesx0
import Derived.Test.YtkiokimpblimcaaOTreeGoesx5
import Derived.Test.YtkiokimpblimcaaOTreeGoesx7
import Derived.Test.YtkiokimpblimcaaOTreeGoesx9
namespace Go.Proofs.Ytkiokimpblimcaa.PTreeGoes
open Go.RowKit Go.Proofs.YtkiokimpblimcaaW.PrintWords Go.Proofs.YtkiokimpblimcaaW.PrintLast Go.Proofs.YtkiokimpblimcaaW.PrintMore
attribute [local go_sem] max2_int min2_int max_two min_two max_three min_three max_four min_four   -- for this text's walks alone
set_option linter.unusedVariables false
set_option linter.unusedSimpArgs false

/-! ### tree_To: function 53 -/
def tree_To.l0 : Nat → Int → List Int → Int → Int → List (S69) → Int → Option ((List (S69)) × Int × Int)
 | 0, _, _, _, _, _, _ => none
 | k + 1, x1, x29, x30, x31, x309000, x309001 => if x31 < x30 then (if 0 ≤ x31 then (if x31 < (x29.length : Int) then (if (rd x29 x31) > 0 then (if 0 ≤ (rd x29 x31) then (if (rd x29 x31) < (x309000.length : Int) then (if 0 ≤ ((rd_T69 x309000 (rd x29 x31)).f0) then (if ((rd_T69 x309000 (rd x29 x31)).f0) < (x309000.length : Int) then (tree_To.l0 k x1 x29 x30 (wrap64 (x31 + 1)) (x309000.set (((rd_T69 x309000 (rd x29 x31)).f0) : Int).toNat (⟨(rd_T69 x309000 ((rd_T69 x309000 (rd x29 x31)).f0)).f0, rd x29 x31, (rd_T69 x309000 ((rd_T69 x309000 (rd x29 x31)).f0)).f2, (rd_T69 x309000 ((rd_T69 x309000 (rd x29 x31)).f0)).f3, (⟨(rd_T69 x309000 ((rd_T69 x309000 (rd x29 x31)).f0)).f4.f0, (rd_T69 x309000 ((rd_T69 x309000 (rd x29 x31)).f0)).f4.f1, (rd_T69 x309000 ((rd_T69 x309000 (rd x29 x31)).f0)).f4.f2⟩ : S24)⟩ : S69)) x309001) else (none)) else (none)) else (none)) else (none)) else (tree_To.l0 k x1 x29 x30 (wrap64 (x31 + 1)) x309000 x309001)) else (none)) else (none)) else (some (x309000, x1, 0))
def tree_To.f (k : Nat) (l0_0 : List (S69)) (a0_1 : Int) (a1 : Int) : Option ((List (S69)) × Int × Int) := (tree_Path.f k l0_0 a0_1 a1).bind fun bt292 => (if bt292.2.2 = 0 then ((tree_open.f k l0_0 a0_1).bind fun bt299 => ((tree_book_copy.f bt299.1 bt299.2.1).bind fun bt304 => ((tree_book_up.f k bt304.1 bt304.2 a1).bind fun t309 => (tree_To.l0 k a1 t309 (t309.length : Int) 0 bt304.1 bt304.2)))) else (some (([] : List (S69)), 0, bt292.2.2)))
theorem tree_To.mono_l : ∀ k, (∀ y0 y1 y2 y3 y4 y5, LeO (tree_To.l0 k y0 y1 y2 y3 y4 y5) (tree_To.l0 (k + 1) y0 y1 y2 y3 y4 y5))
 | 0 => fun _ _ _ _ _ _ r h => by simp [tree_To.l0] at h
 | k + 1 => by
  have ih0 := tree_To.mono_l k
  ·intro y0 y1 y2 y3 y4 y5
   unfold tree_To.l0
   repeat' first
   | (with_reducible exact ih0 _ _ _ _ _ _)
   | (with_reducible exact tree_Path.mono _ _ _ _)
   | (with_reducible exact tree_book_up.mono _ _ _ _)
   | (with_reducible exact tree_open.mono _ _ _)
   | (with_reducible exact LeO.refl _)
   | (with_reducible exact LeO.none _)
   | (with_reducible refine LeO.ite ?_ ?_)
   | (with_reducible refine LeO.bind ?_ (fun _ => ?_))
   | exact ih0 _ _ _ _ _ _
   | exact tree_Path.mono _ _ _ _
   | exact tree_book_up.mono _ _ _ _
   | exact tree_open.mono _ _ _
   | exact LeO.none _
   | refine LeO.ite ?_ ?_
   | refine LeO.bind ?_ (fun _ => ?_)
theorem tree_To.mono : ∀ a0 a1 a2 k, LeO (tree_To.f k a0 a1 a2) (tree_To.f (k + 1) a0 a1 a2) := by
 intro a0 a1 a2 k
 have ih0 := tree_To.mono_l k
 unfold tree_To.f
 repeat' first
   | (with_reducible exact ih0 _ _ _ _ _ _)
   | (with_reducible exact tree_Path.mono _ _ _ _)
   | (with_reducible exact tree_book_up.mono _ _ _ _)
   | (with_reducible exact tree_open.mono _ _ _)
   | (with_reducible exact LeO.refl _)
   | (with_reducible exact LeO.none _)
   | (with_reducible refine LeO.ite ?_ ?_)
   | (with_reducible refine LeO.bind ?_ (fun _ => ?_))
   | exact ih0 _ _ _ _ _ _
   | exact tree_Path.mono _ _ _ _
   | exact tree_book_up.mono _ _ _ _
   | exact tree_open.mono _ _ _
   | exact LeO.none _
   | refine LeO.ite ?_ ?_
   | refine LeO.bind ?_ (fun _ => ?_)
def tree_To.T9 : Bool × List (List Nat × List Nat) := (true, [([], []), ([0], [0]), ([1], [1]), ([], []), ([3], [3]), ([4], [4]), ([], []), ([5, 6], [5, 6]), ([7], [7]), ([8], [8]), ([], []), ([2, 9, 0, 1, 2, 3, 4, 5, 6, 7, 8, 9, 10], [2, 9]), ([11, 0, 1, 2, 3, 4, 5, 6, 7, 8, 9, 10], [11]), ([12, 10, 0, 1, 2, 3, 4, 5, 6, 7, 8, 9, 10], [10, 12])])
def tree_To.B9 : List Nat := [0, 1, 3, 0, 8, 24, 0, 120, 248, 504, 0, 2047, 4095, 8191]
theorem tree_To.tab9 : rtab .any (opsOf Try.f53 9) = tree_To.T9 := by kernel_rfl
theorem tree_To.bits9 : waitsOk tree_To.T9.2 tree_To.B9 = true := by kernel_rfl
set_option maxHeartbeats 8000000 in
set_option maxRecDepth 100000 in
theorem tree_To.calls (k : Nat) (A0_0 : Option Addr) (c0_0 : Nat) (l0_0 : List (S69)) (a0_1 : Int) (a1 : Int) (r1 : List (S69)) (r2 : Int) (r3 : Int) (w : World) (hr0_0 : Kd.C k69 w A0_0 l0_0.length l0_0) (hc0_0 : l0_0.length ≤ c0_0) (h : tree_To.f k l0_0 a0_1 a1 = some (r1, r2, r3)) :
  Calls Try.prog 53 #[.agg #[.slice A0_0 l0_0.length c0_0, .int .i64 a0_1], .int .i64 a1] w fun e w' => ∃ v0_ : Value, e = .returned (.tuple #[.agg #[v0_, .int .i64 r2], .int .i64 r3]) ∧ Kd.R k69 69 w' w.heap.size (fun _ => True) v0_ r1 ∧ Below w.heap.size w w' := by
 have hu46 := Try.underlying46
 have hu102 := Try.underlying102
 have hfd104_0 := fun (w : World) (c0 c1 c2 : Value) => (by kernel_rfl : (Instr.field 104 (.agg #[c0, c1, c2]) 0).run Try.prog w = .ok (.agg #[c0, c1]) w)
 have HR0_0 := Aside0.mk hr0_0
 have HC0_0 := Aside0.mk hc0_0
 clear hr0_0 hc0_0
 have HB := Aside0.mk (Below.refl w.heap.size w)
 have H : ((tree_Path.f k l0_0 a0_1 a1).bind fun bt292 => (if bt292.2.2 = 0 then ((tree_open.f k l0_0 a0_1).bind fun bt299 => ((tree_book_copy.f bt299.1 bt299.2.1).bind fun bt304 => ((tree_book_up.f k bt304.1 bt304.2 a1).bind fun t309 => (tree_To.l0 k a1 t309 (t309.length : Int) 0 bt304.1 bt304.2)))) else (some (([] : List (S69)), 0, bt292.2.2)))) = some (r1, r2, r3) := h
 clear h
 replace H := Option.bind_eq_some_iff.mp H
 obtain ⟨⟨t292, t295, t298⟩, A30, H⟩ := H
 replace H : (if t298 = 0 then ((tree_open.f k l0_0 a0_1).bind fun bt299 => ((tree_book_copy.f bt299.1 bt299.2.1).bind fun bt304 => ((tree_book_up.f k bt304.1 bt304.2 a1).bind fun t309 => (tree_To.l0 k a1 t309 (t309.length : Int) 0 bt304.1 bt304.2)))) else (some (([] : List (S69)), 0, t298))) = some (r1, r2, r3) := H
 have A3 := Aside0.mk A30
 clear A30
 by_cases c4 : t298 = 0
 ·rw [if_pos c4] at H
  have c4b0 : (t298 == 0) = true := beq_iff_eq.mpr c4
  have c4b1 : (t298 != 0) = false := bne_eq_false_iff_eq.mpr c4
  clear c4
  replace H := Option.bind_eq_some_iff.mp H
  obtain ⟨⟨t299, t302, t303⟩, A50, H⟩ := H
  replace H : ((tree_book_copy.f t299 t302).bind fun bt304 => ((tree_book_up.f k bt304.1 bt304.2 a1).bind fun t309 => (tree_To.l0 k a1 t309 (t309.length : Int) 0 bt304.1 bt304.2))) = some (r1, r2, r3) := H
  have A5 := Aside0.mk A50
  clear A50
  replace H := Option.bind_eq_some_iff.mp H
  obtain ⟨⟨t304, t307⟩, A60, H⟩ := H
  replace H : ((tree_book_up.f k t304 t307 a1).bind fun t309 => (tree_To.l0 k a1 t309 (t309.length : Int) 0 t304 t307)) = some (r1, r2, r3) := H
  have A6 := Aside0.mk A60
  clear A60
  replace H := Option.bind_eq_some_iff.mp H
  obtain ⟨t309, A70, H⟩ := H
  replace H : (tree_To.l0 k a1 t309 (t309.length : Int) 0 t304 t307) = some (r1, r2, r3) := H
  have A7 := Aside0.mk A70
  clear A70
  have H' := Aside0.mk H
  clear H
  go_enter Try.func53, Try.ntmps53
  go_wp2_with (first | ((with_reducible refine gate_dst (N := 2) rfl ?_); refine be_ (N := 2) (cs := #[.slice A0_0 l0_0.length c0_0, .int .i64 a0_1]) (t := 46) (h := ?_); intro gb290 hg w8 hbox hb; have BK290 := Aside0.mk (hbox); have GW290 := gw_ HB hg; have GE290 := gw_ HB hg; replace HB := bs_ HB hb; clear hb hbox hg) | ((with_reducible refine gate_dst (N := 4) rfl ?_); refine be_ (N := 4) (cs := #[.slice none 0 0, .int .i64 0]) (t := 46) (h := ?_); intro gb291 hg w9 hbox hb; have BK291 := Aside0.mk (hbox); have GW291 := gw_ HB hg; have GE291 := gw_ HB hg; have NB290_291 := ne_ BK290 hg; have NB291_290 := en_ BK290 hg; replace BK290 := bb_ BK290 hb; replace HB := bs_ HB hb; clear hb hbox hg; have hnb10 := NB290_291.out; have hnc10 := NB291_290.out; obtain ⟨hcz11_0, hcz11_1, hfz11_0, hfz11_1⟩ := bc2_ BK290) | ((with_reducible refine gate_callee (f := 51) rfl ?_); refine ge_ (some 15) rfl rfl Try.func51 (by kernel_rfl) rfl #[.agg #[.slice A0_0 l0_0.length c0_0, .int .i64 a0_1], .int .i64 a1] rfl (h := ?_); (with_reducible refine (tree_Path.calls k _ _ l0_0 a0_1 a1 t292 t295 t298 _ ?side1 ?side2 A3.out).mono ?_); (case side1 => exact cw_ (Kd.C_below HR0_0.out HB.out)); (case side2 => exact HC0_0.out); rintro e w12 ⟨v293, v296, rfl, ho0, ho1, hb⟩; refine ⟨_, rfl, ?_⟩; have HO294 := Aside0.mk (Kd.R_lower ho0 (below_size (hb_ HB))); have HO297 := Aside0.mk (Kd.R_lower ho1 (below_size (hb_ HB))); replace BK290 := bb_ BK290 hb; replace BK291 := bb_ BK291 hb; replace HB := bs_ HB hb; (try clear hb); (try clear hb2); (try clear hk); (try clear hi); (try clear ho0); (try clear ho1); obtain ⟨hcz13_0, hcz13_1, hfz13_0, hfz13_1⟩ := bc2_ BK290) | ((with_reducible refine gate_callee (f := 79) rfl ?_); refine ge_ (some 24) rfl rfl Try.func79 (by kernel_rfl) rfl #[.agg #[.slice A0_0 l0_0.length c0_0, .int .i64 a0_1]] rfl (h := ?_); (with_reducible refine (tree_open.calls k (fun k_ => k_ < w.heap.size) _ _ l0_0 a0_1 t299 t302 t303 _ ?side1 A5.out).mono ?_); (case side1 => exact Kd.V_mk HC0_0.out (Kd.F_below (Kd.C_F k69_heap HR0_0.out) (hb_ HB))); rintro e w14 ⟨v300, rfl, ho0, hb⟩; refine ⟨_, rfl, ?_⟩; have HO301 := Aside0.mk (Kd.V_lower (Kd.V_mono (ok' := fun k_ => some k_ ≠ (v293 : Value).ownBlock ∧ some k_ ≠ (v296 : Value).ownBlock ∧ k_ ≠ gb290 ∧ k_ ≠ gb291) ho0 (fun k_ hk_ => ⟨Or.elim hk_ (fun hs_ => fun e_ => Nat.not_le.2 hs_ (Kd.R_base HO294.out k_ e_.symm)) (fun hn_ => (Kd.fresh' (Kd.R_lt (rw_ HO294.out)) k_ hn_)), Or.elim hk_ (fun hs_ => fun e_ => Nat.not_le.2 hs_ (Kd.R_base HO297.out k_ e_.symm)) (fun hn_ => (Kd.fresh' (Kd.R_lt (rw_ HO297.out)) k_ hn_)), Or.elim hk_ (fun hs_ => fun e_ => Nat.not_le.2 hs_ (by rw [e_]; exact GW290.out)) (fun hn_ => (Kd.freshB (g := gb290) (o := .cells #[.slice A0_0 l0_0.length c0_0, .int .i64 a0_1] 46 (0, 0)) (bw_ BK290.out) k_ hn_)), Or.elim hk_ (fun hs_ => fun e_ => Nat.not_le.2 hs_ (by rw [e_]; exact GW291.out)) (fun hn_ => (Kd.freshB (g := gb291) (o := .cells #[.slice none 0 0, .int .i64 0] 46 (0, 0)) (bw_ BK291.out) k_ hn_))⟩)) (below_size (hb_ HB))); replace HO294 := Aside0.mk (Kd.R_below (rw_ HO294.out) hb); replace HO297 := Aside0.mk (Kd.R_below (rw_ HO297.out) hb); replace BK290 := bb_ BK290 hb; replace BK291 := bb_ BK291 hb; replace HB := bs_ HB hb; (try clear hb); (try clear hb2); (try clear hk); (try clear hi); (try clear ho0); obtain ⟨Ao15, co15, eo15⟩ := Kd.V_slice HO301.out; subst eo15) | ((with_reducible refine gate_callee (f := 80) rfl ?_); refine ge_ (some 26) rfl rfl Try.func80 (by kernel_rfl) rfl #[.agg #[.slice Ao15 t299.length co15, .int .i64 t302]] rfl (h := ?_); (with_reducible refine (tree_book_copy.calls _ _ t299 t302 t304 t307 _ ?side1 ?side2 A6.out).mono ?_); (case side1 => repeat (first | exact (Kd.V_reads' HO301.out).2.2 | (with_reducible refine Kd.C_alloc ?_ _) | (with_reducible refine Kd.C_drewN ?_ _) | (with_reducible refine Kd.C_drew ?_))); (case side2 => exact (Kd.V_reads' HO301.out).2.1); rintro e w16 ⟨v305, rfl, ho0, hb⟩; refine ⟨_, rfl, ?_⟩; have HO306 := Aside0.mk (Kd.R_lower ho0 (below_size (hb_ HB))); replace HO294 := Aside0.mk (Kd.R_below (rw_ HO294.out) hb); replace HO297 := Aside0.mk (Kd.R_below (rw_ HO297.out) hb); replace HO301 := Aside0.mk (Kd.V_elder' (vw_ HO301.out) (Kd.R_base ho0) hb); replace BK290 := bb_ BK290 hb; replace BK291 := bb_ BK291 hb; replace HB := bs_ HB hb; (try clear hb); (try clear hb2); (try clear hk); (try clear hi); (try clear ho0)) | ((with_reducible refine gate_dst (N := 9) rfl ?_); refine be_ (N := 9) (cs := #[.slice none 0 0, .int .i64 0]) (t := 102) (h := ?_); intro gb308 hg w17 hbox hb; have BK308 := Aside0.mk (hbox); have GW308 := gw_ HB hg; have GE308 := gw_ HB hg; have NB290_308 := ne_ BK290 hg; have NB308_290 := en_ BK290 hg; have NB291_308 := ne_ BK291 hg; have NB308_291 := en_ BK291 hg; replace HO294 := Aside0.mk (Kd.R_below (rw_ HO294.out) hb); replace HO297 := Aside0.mk (Kd.R_below (rw_ HO297.out) hb); replace HO301 := Aside0.mk (Kd.V_below (Kd.V_elderB (vw_ HO301.out) gb308 (Nat.le_of_eq hg.symm)) hb); replace HO306 := Aside0.mk (Kd.R_below (rw_ HO306.out) hb); replace BK290 := bb_ BK290 hb; replace BK291 := bb_ BK291 hb; replace HB := bs_ HB hb; clear hb hbox hg; obtain ⟨Ao18, co18, eo18⟩ := Kd.R_slice HO306.out; subst eo18; have hnb19 := NB308_290.out; have hnc19 := NB290_308.out; have hnb20 := NB308_291.out; have hnc20 := NB291_308.out; obtain ⟨hcz21_0, hcz21_1, hfz21_0, hfz21_1⟩ := bc2_ BK308) | ((with_reducible refine gate_callee (f := 87) rfl ?_); refine ge_ (some 29) rfl rfl Try.func87 (by kernel_rfl) rfl #[.agg #[.slice Ao18 t304.length co18, .int .i64 t307], .int .i64 a1] rfl (h := ?_); (with_reducible refine (tree_book_up.calls k _ _ t304 t307 a1 t309 _ ?side1 ?side2 A7.out).mono ?_); (case side1 => refine (Kd.R_reads' (e := 69) (base := w.heap.size) (ok := fun k_ => True) (n := t304.length) (c := co18) ?_).2.2; exact (by (with_reducible repeat (first | apply Kd.R_alloc | apply Kd.R_drewN | apply Kd.R_drew)); exact (Kd.R_mono (rf_ (Kd.R_types HO306.out BK308.out (by decide)) (fun _ hk => hk.2)) (fun _ h_ => h_.1)))); (case side2 => exact (Kd.R_reads' HO306.out).2.1); rintro e w22 ⟨v310, rfl, ho0, hb⟩; refine ⟨_, rfl, ?_⟩; have HO311 := Aside0.mk (Kd.R_lower (Kd.R_new' (Kd.R_new' ho0 (Kd.R_lt (by (with_reducible repeat (first | apply Kd.R_alloc | apply Kd.R_drewN | apply Kd.R_drew)); exact (Kd.R_mono (rf_ (Kd.R_types HO294.out BK308.out (by decide)) (fun _ hk => hk.2)) (fun _ h_ => h_.1))))) (Kd.R_lt (by (with_reducible repeat (first | apply Kd.R_alloc | apply Kd.R_drewN | apply Kd.R_drew)); exact (Kd.R_mono (rf_ (Kd.R_types HO297.out BK308.out (by decide)) (fun _ hk => hk.2)) (fun _ h_ => h_.1))))) (below_size (hb_ HB))); replace HO294 := Aside0.mk (Kd.R_elder' (by (with_reducible repeat (first | apply Kd.R_alloc | apply Kd.R_drewN | apply Kd.R_drew)); exact (Kd.R_mono (rf_ (Kd.R_types HO294.out BK308.out (by decide)) (fun _ hk => hk.2)) (fun _ h_ => h_.1))) (Kd.R_base ho0) hb); replace HO297 := Aside0.mk (Kd.R_elder' (by (with_reducible repeat (first | apply Kd.R_alloc | apply Kd.R_drewN | apply Kd.R_drew)); exact (Kd.R_mono (rf_ (Kd.R_types HO297.out BK308.out (by decide)) (fun _ hk => hk.2)) (fun _ h_ => h_.1))) (Kd.R_base ho0) hb); replace HO301 := Aside0.mk (Kd.V_elder' (by (with_reducible repeat (first | apply Kd.V_alloc | apply Kd.V_drewN | apply Kd.V_drew)); exact (Kd.V_mono (vf_ (Kd.V_mono HO301.out (fun k_ hk => (⟨hk, hk.2⟩ : _ ∧ k_ ≠ gb308))) (fun _ hk => hk.2)) (fun _ h_ => h_.1))) (Kd.R_base ho0) hb); replace HO306 := Aside0.mk (Kd.R_below (by (with_reducible repeat (first | apply Kd.R_alloc | apply Kd.R_drewN | apply Kd.R_drew)); exact (Kd.R_mono (rf_ (Kd.R_types HO306.out BK308.out (by decide)) (fun _ hk => hk.2)) (fun _ h_ => h_.1))) hb); replace BK290 := Aside0.mk (blk_below (g := gb290) (o := .cells #[.slice A0_0 l0_0.length c0_0, .int .i64 a0_1] 46 (0, 0)) (bp_ BK290.out) hb); replace BK291 := Aside0.mk (blk_below (g := gb291) (o := .cells #[.slice none 0 0, .int .i64 0] 46 (0, 0)) (bp_ BK291.out) hb); replace HB := bs_ HB hb; replace BK308 := Aside0.mk (blk_below (g := gb308) (o := .cells #[.slice Ao18 t304.length co18, .int .i64 t307] 102 (0, 0)) (bp_ BK308.out) hb); (try clear hb); (try clear hb2); (try clear hk); (try clear hi); (try clear ho0); obtain ⟨Ao23, co23, eo23⟩ := Kd.R_slice HO311.out; subst eo23))
  go_loopg [31] k (fun kq v31 w' => ∃ (x31_1 : Int) (x309000_1 : List (S69)) (u309000 : Value), v31 = .int .i64 x31_1 ∧ Aside0 (tree_To.l0 kq a1 t309 (t309.length : Int) x31_1 x309000_1 t307 = some (r1, r2, r3)) ∧ Aside0 (kq ≤ k) ∧ Aside0 (Kd.R (Kd.int .i64) 3 w' w.heap.size (fun _ => True) (.slice Ao23 t309.length co23) t309) ∧ Aside0 (Kd.R k69 69 w' w.heap.size (fun _ => True) u309000 x309000_1) ∧ Aside0 (w'.heap[gb290]? = some (.cells #[(.slice A0_0 l0_0.length c0_0), .int .i64 a0_1] 46 (0, 0))) ∧ Aside0 (w'.heap[gb291]? = some (.cells #[(.slice none 0 0), .int .i64 0] 46 (0, 0))) ∧ Aside0 (w'.heap[gb308]? = some (.cells #[u309000, .int .i64 t307] 102 (0, 0))) ∧ Aside0 (Below w.heap.size w w'))
  case atStart => exact ⟨(0), (t304), (.slice Ao18 t304.length co18), es_, H', ⟨Nat.le_refl _⟩, ⟨by (with_reducible repeat (first | apply Kd.R_alloc | apply Kd.R_drewN | apply Kd.R_drew)); exact Kd.R_mono HO311.out (fun _ hk => trivial)⟩, ⟨rw_ HO306.out⟩, ⟨bw_ BK290.out⟩, ⟨bw_ BK291.out⟩, ⟨bw_ BK308.out⟩, ⟨hb_ HB⟩⟩
  case round =>
   clear H'
   try clear c4
   try clear c4b0
   try clear c4b1
   try clear hcz11_0
   try clear hcz11_1
   try clear hcz13_0
   try clear hcz13_1
   try clear hcz21_0
   try clear hcz21_1
   try clear hfz11_0
   try clear hfz11_1
   try clear hfz13_0
   try clear hfz13_1
   try clear hfz21_0
   try clear hfz21_1
   obtain ⟨x31_1, x309000_1, u309000, rfl, HA, HK1, HO_29, HO_309000, BK290, BK291, BK308, HB⟩ := hrel
   cases gk with
   | zero => exact absurd HA.out (by simp [tree_To.l0])
   | succ k1 =>
    have H := HA.out
    clear HA
    simp only [tree_To.l0] at H
    by_cases c24 : x31_1 < (t309.length : Int)
    ·rw [if_pos c24] at H
     have c24b0 : decide (x31_1 < (t309.length : Int)) = true := decide_eq_true c24
     clear c24
     by_cases c25 : 0 ≤ x31_1
     ·rw [if_pos c25] at H
      have c25b0 : decide (0 ≤ x31_1) = true := decide_eq_true c25
      clear c25
      by_cases c26 : x31_1 < (t309.length : Int)
      ·rw [if_pos c26] at H
       have c26b0 : decide (x31_1 < (t309.length : Int)) = true := decide_eq_true c26
       clear c26
       by_cases c27 : (rd t309 x31_1) > 0
       ·rw [if_pos c27] at H
        have c27b0 : decide (0 < (rd t309 x31_1)) = true := decide_eq_true c27
        clear c27
        by_cases c28 : 0 ≤ (rd t309 x31_1)
        ·rw [if_pos c28] at H
         have c28b0 : decide (0 ≤ (rd t309 x31_1)) = true := decide_eq_true c28
         clear c28
         by_cases c29 : (rd t309 x31_1) < (x309000_1.length : Int)
         ·rw [if_pos c29] at H
          have c29b0 : decide ((rd t309 x31_1) < (x309000_1.length : Int)) = true := decide_eq_true c29
          clear c29
          by_cases c30 : 0 ≤ ((rd_T69 x309000_1 (rd t309 x31_1)).f0)
          ·rw [if_pos c30] at H
           have c30b0 : decide (0 ≤ ((rd_T69 x309000_1 (rd t309 x31_1)).f0)) = true := decide_eq_true c30
           clear c30
           by_cases c31 : ((rd_T69 x309000_1 (rd t309 x31_1)).f0) < (x309000_1.length : Int)
           ·rw [if_pos c31] at H
            have c31b0 : decide (((rd_T69 x309000_1 (rd t309 x31_1)).f0) < (x309000_1.length : Int)) = true := decide_eq_true c31
            clear c31
            obtain ⟨y314, hy314⟩ : ∃ y_ : List (S69), y_ = (x309000_1.set (((rd_T69 x309000_1 (rd t309 x31_1)).f0) : Int).toNat (⟨(rd_T69 x309000_1 ((rd_T69 x309000_1 (rd t309 x31_1)).f0)).f0, rd t309 x31_1, (rd_T69 x309000_1 ((rd_T69 x309000_1 (rd t309 x31_1)).f0)).f2, (rd_T69 x309000_1 ((rd_T69 x309000_1 (rd t309 x31_1)).f0)).f3, (⟨(rd_T69 x309000_1 ((rd_T69 x309000_1 (rd t309 x31_1)).f0)).f4.f0, (rd_T69 x309000_1 ((rd_T69 x309000_1 (rd t309 x31_1)).f0)).f4.f1, (rd_T69 x309000_1 ((rd_T69 x309000_1 (rd t309 x31_1)).f0)).f4.f2⟩ : S24)⟩ : S69)) := ⟨_, rfl⟩
            replace H : (tree_To.l0 k1 a1 t309 (t309.length : Int) (wrap64 (x31_1 + 1)) y314 t307) = some (r1, r2, r3) := th_ H hy314
            have Ny314 := Aside0.mk hy314
            clear hy314
            have H' := Aside0.mk H
            clear H
            have p312 : 0 ≤ (x31_1 : Int) := of_decide_eq_true as_
            have q312 : x31_1 < (t309.length : Int) := of_decide_eq_true as_
            obtain ⟨ad312, e312, hx312_0⟩ := Kd.at_int (Kd.R_reads' HO_29.out).2.2 x31_1 p312 q312
            cases e312
            replace p312 := eq_true p312
            replace q312 := eq_true q312
            try go_wp2
            have n0_ := Aside0.mk (Kd.R_drew HO_29.out)
            have n1_ := Aside0.mk (Kd.R_drew HO_309000.out)
            have n2_ := Aside0.mk (blk_drew BK290.out)
            have n3_ := Aside0.mk (blk_drew BK291.out)
            have n4_ := Aside0.mk (blk_drew BK308.out)
            have n5_ := Aside0.mk (below_drew1 HB.out)
            clear HO_29
            clear HO_309000
            clear BK290
            clear BK291
            clear BK308
            clear HB
            have HO_29 := n0_
            have HO_309000 := n1_
            have BK290 := n2_
            have BK291 := n3_
            have BK308 := n4_
            have HB := n5_
            clear n0_ n1_ n2_ n3_ n4_ n5_
            obtain ⟨Ao34, co34, eo34⟩ := Kd.R_slice HO_309000.out
            (first | subst eo34 | (injection eo34 with f1_ f2_ f3_; have f4_ := f1_.symm; have f5_ := f3_.symm; clear f1_ f2_ f3_; subst f4_; subst f5_))
            have p313 : 0 ≤ ((rd t309 x31_1) : Int) := of_decide_eq_true as_
            have q313 : (rd t309 x31_1) < (x309000_1.length : Int) := of_decide_eq_true as_
            obtain ⟨ad313, e313, hx313_0, hx313_1, hx313_2, hx313_3, hx313_4, hx313_5, hx313_6⟩ := at_T69 (Kd.R_reads' HO_309000.out).2.2 (rd t309 x31_1) p313 q313
            cases e313
            replace p313 := eq_true p313
            replace q313 := eq_true q313
            have p32 : 0 ≤ (((rd_T69 x309000_1 (rd t309 x31_1)).f0) : Int) := of_decide_eq_true as_
            have q32 : (((rd_T69 x309000_1 (rd t309 x31_1)).f0) : Int) < ((x309000_1.length : Int) : Int) := of_decide_eq_true as_
            obtain ⟨go32, co32, eo32, gb32, gl32, cl32, HG32⟩ := Kd.R_form HO_309000.out (by omega)
            (first | cases eo32 | (injection eo32 with ea_ en_ ec_; (first | subst ea_ | (injection ea_ with ea_; subst ea_)); subst ec_; clear en_))
            have GB32 := Aside0.mk gb32
            have GG32 := Aside0.mk HG32
            clear gb32 gl32 HG32
            (first | simp only [add_plain] at hx313_0 | skip)
            (first | simp only [add_plain] at hx313_1 | skip)
            (first | simp only [add_plain] at hx313_2 | skip)
            (first | simp only [add_plain] at hx313_3 | skip)
            (first | simp only [add_plain] at hx313_4 | skip)
            (first | simp only [add_plain] at hx313_5 | skip)
            (first | simp only [add_plain] at hx313_6 | skip)
            obtain ⟨ce32, hcl32, hM32, hcc32, hfr32⟩ := Kd.R_elem HO_309000.out z69 (((rd_T69 x309000_1 (rd t309 x31_1)).f0) : Int) p32 q32
            obtain rfl := k69_openM hM32
            have hx32_0 : World.cell? _ ⟨go32, (((rd_T69 x309000_1 (rd t309 x31_1)).f0) : Int).toNat * 7, none⟩ = some (.int .i64 ((rd_T69 x309000_1 ((rd_T69 x309000_1 (rd t309 x31_1)).f0)).f0)) := hcc32 0 _ rfl
            have hx32_1 : World.cell? _ ⟨go32, (((rd_T69 x309000_1 (rd t309 x31_1)).f0) : Int).toNat * 7 + 1, none⟩ = some (.int .i64 ((rd_T69 x309000_1 ((rd_T69 x309000_1 (rd t309 x31_1)).f0)).f1)) := hcc32 1 _ rfl
            have hx32_2 : World.cell? _ ⟨go32, (((rd_T69 x309000_1 (rd t309 x31_1)).f0) : Int).toNat * 7 + 2, none⟩ = some (.int .i64 ((rd_T69 x309000_1 ((rd_T69 x309000_1 (rd t309 x31_1)).f0)).f2)) := hcc32 2 _ rfl
            have hx32_3 : World.cell? _ ⟨go32, (((rd_T69 x309000_1 (rd t309 x31_1)).f0) : Int).toNat * 7 + 3, none⟩ = some (.int .i64 ((rd_T69 x309000_1 ((rd_T69 x309000_1 (rd t309 x31_1)).f0)).f3)) := hcc32 3 _ rfl
            have hx32_4 : World.cell? _ ⟨go32, (((rd_T69 x309000_1 (rd t309 x31_1)).f0) : Int).toNat * 7 + 4, none⟩ = some (.int .i64 ((rd_T69 x309000_1 ((rd_T69 x309000_1 (rd t309 x31_1)).f0)).f4.f0)) := hcc32 4 _ rfl
            have hx32_5 : World.cell? _ ⟨go32, (((rd_T69 x309000_1 (rd t309 x31_1)).f0) : Int).toNat * 7 + 5, none⟩ = some (.string ((rd_T69 x309000_1 ((rd_T69 x309000_1 (rd t309 x31_1)).f0)).f4.f1)) := hcc32 5 _ rfl
            have hx32_6 : World.cell? _ ⟨go32, (((rd_T69 x309000_1 (rd t309 x31_1)).f0) : Int).toNat * 7 + 6, none⟩ = some (.string ((rd_T69 x309000_1 ((rd_T69 x309000_1 (rd t309 x31_1)).f0)).f4.f2)) := hcc32 6 _ rfl
            have hf32_0 : World.frozen? _ ⟨go32, (((rd_T69 x309000_1 (rd t309 x31_1)).f0) : Int).toNat * 7, none⟩ = false := hfr32 0
            have hf32_1 : World.frozen? _ ⟨go32, (((rd_T69 x309000_1 (rd t309 x31_1)).f0) : Int).toNat * 7 + 1, none⟩ = false := hfr32 1
            have hf32_2 : World.frozen? _ ⟨go32, (((rd_T69 x309000_1 (rd t309 x31_1)).f0) : Int).toNat * 7 + 2, none⟩ = false := hfr32 2
            have hf32_3 : World.frozen? _ ⟨go32, (((rd_T69 x309000_1 (rd t309 x31_1)).f0) : Int).toNat * 7 + 3, none⟩ = false := hfr32 3
            have hf32_4 : World.frozen? _ ⟨go32, (((rd_T69 x309000_1 (rd t309 x31_1)).f0) : Int).toNat * 7 + 4, none⟩ = false := hfr32 4
            have hf32_5 : World.frozen? _ ⟨go32, (((rd_T69 x309000_1 (rd t309 x31_1)).f0) : Int).toNat * 7 + 5, none⟩ = false := hfr32 5
            have hf32_6 : World.frozen? _ ⟨go32, (((rd_T69 x309000_1 (rd t309 x31_1)).f0) : Int).toNat * 7 + 6, none⟩ = false := hfr32 6
            clear hcl32 hcc32 hfr32 hM32
            replace p32 := eq_true p32
            replace q32 := eq_true q32
            obtain ⟨ce35, hcl35, hM35, hcc35, hfr35⟩ := Kd.R_elem HO_309000.out z69 (((rd_T69 x309000_1 (rd t309 x31_1)).f0) : Int) (of_decide_eq_true as_) (by have h_ : (((rd_T69 x309000_1 (rd t309 x31_1)).f0) : Int) < ((x309000_1.length : Int) : Int) := of_decide_eq_true as_; first | exact h_ | (have e_ := (Kd.R_reads' HO_309000.out).1; omega) | simpa using h_)
            obtain rfl := k69_openM hM35
            have HP35 := (Kd.R_seg HO_309000.out (((rd_T69 x309000_1 (rd t309 x31_1)).f0) : Int) (of_decide_eq_true as_) (by have h_ : (((rd_T69 x309000_1 (rd t309 x31_1)).f0) : Int) < ((x309000_1.length : Int) : Int) := of_decide_eq_true as_; first | exact h_ | (have e_ := (Kd.R_reads' HO_309000.out).1; omega) | simpa using h_) (seg := [.int .i64 (rd t309 x31_1)]) (j := 1) hcl35 hcc35 (show 2 ≤ 7 from by decide) (x' := (⟨(rd_T69 x309000_1 ((rd_T69 x309000_1 (rd t309 x31_1)).f0)).f0, rd t309 x31_1, (rd_T69 x309000_1 ((rd_T69 x309000_1 (rd t309 x31_1)).f0)).f2, (rd_T69 x309000_1 ((rd_T69 x309000_1 (rd t309 x31_1)).f0)).f3, (⟨(rd_T69 x309000_1 ((rd_T69 x309000_1 (rd t309 x31_1)).f0)).f4.f0, (rd_T69 x309000_1 ((rd_T69 x309000_1 (rd t309 x31_1)).f0)).f4.f1, (rd_T69 x309000_1 ((rd_T69 x309000_1 (rd t309 x31_1)).f0)).f4.f2⟩ : S24)⟩ : S69)) (k69_mkM _ _ _ (⟨(rd_T69 x309000_1 ((rd_T69 x309000_1 (rd t309 x31_1)).f0)).f0, rd t309 x31_1, (rd_T69 x309000_1 ((rd_T69 x309000_1 (rd t309 x31_1)).f0)).f2, (rd_T69 x309000_1 ((rd_T69 x309000_1 (rd t309 x31_1)).f0)).f3, (⟨(rd_T69 x309000_1 ((rd_T69 x309000_1 (rd t309 x31_1)).f0)).f4.f0, (rd_T69 x309000_1 ((rd_T69 x309000_1 (rd t309 x31_1)).f0)).f4.f1, (rd_T69 x309000_1 ((rd_T69 x309000_1 (rd t309 x31_1)).f0)).f4.f2⟩ : S24)⟩ : S69) ) (fun _ hk => hk)).1
            rw [← Ny314.out] at HP35
            have HQ35 := Aside0.mk HP35
            clear hcl35 hcc35 hfr35 hM35 HP35
            refine start_ (n := 14) (S := fun w' => w'.cell? ⟨gb308, 0, none⟩ = some (.slice (some ⟨go32, 0, none⟩) x309000_1.length co34) ∧ w'.cell? ⟨gb308, 1, none⟩ = some (.int .i64 t307) ∧ w'.cell? (⟨go32, (((rd t309 x31_1)).toNat * 7), none⟩ : Addr) = some (.int .i64 ((rd_T69 x309000_1 (rd t309 x31_1)).f0)) ∧ w'.cell? ⟨go32, ((((rd t309 x31_1)).toNat * 7)) + 1, none⟩ = some (.int .i64 ((rd_T69 x309000_1 (rd t309 x31_1)).f1)) ∧ w'.cell? ⟨go32, ((((rd t309 x31_1)).toNat * 7)) + 2, none⟩ = some (.int .i64 ((rd_T69 x309000_1 (rd t309 x31_1)).f2)) ∧ w'.cell? ⟨go32, ((((rd t309 x31_1)).toNat * 7)) + 3, none⟩ = some (.int .i64 ((rd_T69 x309000_1 (rd t309 x31_1)).f3)) ∧ w'.cell? ⟨go32, ((((rd t309 x31_1)).toNat * 7)) + 4, none⟩ = some (.int .i64 ((rd_T69 x309000_1 (rd t309 x31_1)).f4.f0)) ∧ w'.cell? ⟨go32, ((((rd t309 x31_1)).toNat * 7)) + 5, none⟩ = some (.string ((rd_T69 x309000_1 (rd t309 x31_1)).f4.f1)) ∧ w'.cell? ⟨go32, ((((rd t309 x31_1)).toNat * 7)) + 6, none⟩ = some (.string ((rd_T69 x309000_1 (rd t309 x31_1)).f4.f2))) (ds := [13]) #[false, false, false, false, false, false, false, false, false, false, false, false, false, false] (by kernel_rfl) rfl rfl ⟨(blk_cell BK308.out 0).trans rfl, (blk_cell BK308.out 1).trans rfl, hx313_0, hx313_1, hx313_2, hx313_3, hx313_4, hx313_5, hx313_6⟩ (fun hHeld => ?_); refine with_tabW tree_To.tab9 tree_To.bits9 (fun HT_ HW_ => ?_)
            generalize wr.drew = w33 at HO_29 HO_309000 BK290 BK291 BK308 HB GG32 HQ35 hf32_0 hf32_1 hf32_2 hf32_3 hf32_4 hf32_5 hf32_6 hx313_0 hx313_1 hx313_2 hx313_3 hx313_4 hx313_5 hx313_6 hx32_0 hx32_1 hx32_2 hx32_3 hx32_4 hx32_5 hx32_6 hHeld ⊢
            refine pp_ (i := 0) (N := some 37) #[true, false, false, false, false, false, false, false, false, false, false, false, false, false] rfl rfl (any_of HT_.out (by kernel_rfl)) (h := ?_)
            refine pp_ (i := 1) (N := some 38) #[true, true, false, false, false, false, false, false, false, false, false, false, false, false] rfl rfl (any_of HT_.out (by kernel_rfl)) (h := ?_)
            refine pp_ (i := 3) (N := some 40) #[true, true, false, true, false, false, false, false, false, false, false, false, false, false] rfl rfl (any_of HT_.out (by kernel_rfl)) (h := ?_)
            refine pp_ (i := 4) (N := some 41) #[true, true, false, true, true, false, false, false, false, false, false, false, false, false] rfl rfl (any_of HT_.out (by kernel_rfl)) (h := ?_)
            refine pp_ (i := 6) (N := some 43) #[true, true, false, true, true, false, true, false, false, false, false, false, false, false] rfl rfl (any_of HT_.out (by kernel_rfl)) (h := ?_)
            refine pp_ (i := 10) (N := some 47) #[true, true, false, true, true, false, true, false, false, false, true, false, false, false] rfl rfl (any_of HT_.out (by kernel_rfl)) (h := ?_)
            refine take_ (i := 2) (N := some 39) (v := ?_) (a' := ?_) #[true, true, true, true, true, false, true, false, false, false, true, false, false, false] rfl rfl (take_ofW HT_.out HW_.out (by kernel_rfl)) (fun _ _ _ h => h) (Or.inl ⟨by rfl, ?_⟩) hHeld ?_ ?_
            rotate_left
            ·rintro w' ⟨s0, s1, s2, s3, s4, s5, s6, s7, s8⟩
             go_simp
             with_reducible rfl
            rotate_left
            ·simp only [Act.put, List.setIfInBounds_toArray, List.set_cons_zero, List.set_cons_succ, i64_w, i32_w]
             rfl
            refine take_ (i := 5) (N := some 42) (v := ?_) (a' := ?_) #[true, true, true, true, true, true, true, false, false, false, true, false, false, false] rfl rfl (take_ofW HT_.out HW_.out (by kernel_rfl)) (fun _ _ _ h => h) (Or.inl ⟨by rfl, ?_⟩) hHeld ?_ ?_
            rotate_left
            ·rintro w' ⟨s0, s1, s2, s3, s4, s5, s6, s7, s8⟩
             go_simp
             with_reducible rfl
            rotate_left
            ·simp only [Act.put, List.setIfInBounds_toArray, List.set_cons_zero, List.set_cons_succ, i64_w, i32_w]
             rfl
            refine pp_ (i := 7) (N := some 44) #[true, true, true, true, true, true, true, true, false, false, true, false, false, false] rfl rfl (any_of HT_.out (by kernel_rfl)) (h := ?_)
            refine pp_ (i := 8) (N := some 45) #[true, true, true, true, true, true, true, true, true, false, true, false, false, false] rfl rfl (any_of HT_.out (by kernel_rfl)) (h := ?_)
            refine take_ (i := 9) (N := some 46) (v := ?_) (a' := ?_) #[true, true, true, true, true, true, true, true, true, true, true, false, false, false] rfl rfl (take_ofW HT_.out HW_.out (by kernel_rfl)) (fun _ _ _ h => h) (Or.inl ⟨by rfl, ?_⟩) hHeld ?_ ?_
            rotate_left
            ·rintro w' ⟨s0, s1, s2, s3, s4, s5, s6, s7, s8⟩
             go_simp
             with_reducible rfl
            rotate_left
            ·simp only [Act.put, List.setIfInBounds_toArray, List.set_cons_zero, List.set_cons_succ, i64_w, i32_w]
             rfl
            refine pp_ (i := 11) (N := some 48) #[true, true, true, true, true, true, true, true, true, true, true, true, false, false] rfl rfl (any_of HT_.out (by kernel_rfl)) (h := ?_)
            refine pp_ (i := 12) (N := some 49) #[true, true, true, true, true, true, true, true, true, true, true, true, true, false] rfl rfl (any_of HT_.out (by kernel_rfl)) (h := ?_)
            refine last_ (i := 13) (N := none) #[true, true, true, true, true, true, true, true, true, true, true, true, true, true] rfl rfl (one_of HT_.out (by kernel_rfl)) (by decide) (fun K hK => ?_)
            refine skip_ (w1 := ?_) (by rfl) rfl ?_ ?_
            rotate_left
            ·go_simp
             rfl
            refine hK.out _ _ ?_
            clear hK K
            refine done_ (done_of HT_.out (by kernel_rfl)) ?_
            try go_wp2
            go_roundg k1
            case measure => have := HK1.out; omega
            case rel => exact ⟨(wrap64 (x31_1 + 1)), (y314), (.slice (some ⟨go32, 0, none⟩) x309000_1.length co34), es_, H', ⟨by have := HK1.out; omega⟩, ⟨by (with_reducible repeat (first | apply Kd.R_alloc | apply Kd.R_drewN | apply Kd.R_drew)); exact Kd.R_mono (Kd.R_far (p := ⟨go32, (((rd_T69 x309000_1 (rd t309 x31_1)).f0) : Int).toNat * 7 + 1, none⟩) (Kd.R_types HO_29.out GG32.out (by decide)) (fun _ hk => hk.2) (.int .i64 (rd t309 x31_1))) (fun _ hk => trivial)⟩, ⟨rw_ HQ35.out⟩, ⟨by (with_reducible repeat (first | refine blk_drewN ?_ _ | refine blk_drew ?_ | refine blk_alloc ?_ _)); refine blk_far ?_ (by have h_ := Kd.R_ne HO_309000.out BK290.out (by decide); intro e_; exact h_ (by rw [e_]; rfl)) _; (with_reducible repeat (first | refine blk_drewN ?_ _ | refine blk_drew ?_ | refine blk_alloc ?_ _)); exact BK290.out⟩, ⟨by (with_reducible repeat (first | refine blk_drewN ?_ _ | refine blk_drew ?_ | refine blk_alloc ?_ _)); refine blk_far ?_ (by have h_ := Kd.R_ne HO_309000.out BK291.out (by decide); intro e_; exact h_ (by rw [e_]; rfl)) _; (with_reducible repeat (first | refine blk_drewN ?_ _ | refine blk_drew ?_ | refine blk_alloc ?_ _)); exact BK291.out⟩, ⟨by (with_reducible repeat (first | refine blk_drewN ?_ _ | refine blk_drew ?_ | refine blk_alloc ?_ _)); refine blk_far ?_ (by have h_ := Kd.R_ne HO_309000.out BK308.out (by decide); intro e_; exact h_ (by rw [e_]; rfl)) _; (with_reducible repeat (first | refine blk_drewN ?_ _ | refine blk_drew ?_ | refine blk_alloc ?_ _)); exact BK308.out⟩, ⟨by repeat (first | (with_reducible first | exact HB.out | apply below_alloc | apply pw_below_drewN | apply below_drew1 | refine below_set ?_ GB32.out | refine below_set ?_ GE290.out | refine below_set ?_ GE291.out | refine below_set ?_ GE308.out) | exact HB.out)⟩⟩
           ·rw [if_neg c31] at H
            exact absurd H (by simp)
          ·rw [if_neg c30] at H
           exact absurd H (by simp)
         ·rw [if_neg c29] at H
          exact absurd H (by simp)
        ·rw [if_neg c28] at H
         exact absurd H (by simp)
       ·rw [if_neg c27] at H
        have c27b0 : decide (0 < (rd t309 x31_1)) = false := decide_eq_false c27
        clear c27
        have H' := Aside0.mk H
        clear H
        have p312 : 0 ≤ (x31_1 : Int) := of_decide_eq_true as_
        have q312 : x31_1 < (t309.length : Int) := of_decide_eq_true as_
        obtain ⟨ad312, e312, hx312_0⟩ := Kd.at_int (Kd.R_reads' HO_29.out).2.2 x31_1 p312 q312
        cases e312
        replace p312 := eq_true p312
        replace q312 := eq_true q312
        go_wp2
        go_roundg k1
        case measure => have := HK1.out; omega
        case rel => exact ⟨(wrap64 (x31_1 + 1)), (x309000_1), (u309000), es_, H', ⟨by have := HK1.out; omega⟩, ⟨rw_ HO_29.out⟩, ⟨rw_ HO_309000.out⟩, ⟨bw_ BK290.out⟩, ⟨bw_ BK291.out⟩, ⟨bw_ BK308.out⟩, ⟨hb_ HB⟩⟩
      ·rw [if_neg c26] at H
       exact absurd H (by simp)
     ·rw [if_neg c25] at H
      exact absurd H (by simp)
    ·rw [if_neg c24] at H
     have c24b0 : decide (x31_1 < (t309.length : Int)) = false := decide_eq_false c24
     clear c24
     simp only [Option.some.injEq, Prod.mk.injEq] at H
     obtain ⟨rfl, rfl, rfl⟩ := H
     have hnb36 := NB308_290.out
     have hnc36 := NB290_308.out
     have hnb37 := NB308_291.out
     have hnc37 := NB291_308.out
     obtain ⟨hcz38_0, hcz38_1, hfz38_0, hfz38_1⟩ := bc2_ BK308
     obtain ⟨Ao39, co39, eo39⟩ := Kd.R_slice HO_309000.out
     subst eo39
     have hnb40 := NB291_290.out
     have hnc40 := NB290_291.out
     obtain ⟨hcz41_0, hcz41_1, hfz41_0, hfz41_1⟩ := bc2_ BK291
     go_wp2
     refine bodyPost_ret (results_ct rfl _ _ gb291 46 #[.slice Ao39 x309000_1.length co39, .int .i64 a1] (0, 0) _ rfl (bp_ BK291.out) Try.underlying46 rfl (by kernel_rfl)) rfl ?_
     exact ⟨_, er_, by (with_reducible repeat (first | apply Kd.R_alloc | apply Kd.R_drewN | apply Kd.R_drew)); exact Kd.R_mono (rf_ (Kd.R_far (p := ⟨gb308, 1, none⟩) (Kd.R_types (Kd.R_types HO_309000.out BK308.out (by decide)) BK291.out (by decide)) (fun _ hk => hk.1.2) (.int .i64 a1)) (fun _ hk => hk.2)) (fun _ hk => trivial), hb_ HB⟩
 ·rw [if_neg c4] at H
  have c4b0 : (t298 == 0) = false := beq_eq_false_iff_ne.mpr c4
  have c4b1 : (t298 != 0) = true := bne_iff_ne.mpr c4
  simp only [Option.some.injEq, Prod.mk.injEq] at H
  obtain ⟨rfl, rfl, rfl⟩ := H
  go_enter Try.func53, Try.ntmps53
  go_wp2_with (first | ((with_reducible refine gate_dst (N := 2) rfl ?_); refine be_ (N := 2) (cs := #[.slice A0_0 l0_0.length c0_0, .int .i64 a0_1]) (t := 46) (h := ?_); intro gb290 hg w42 hbox hb; have BK290 := Aside0.mk (hbox); have GW290 := gw_ HB hg; have GE290 := gw_ HB hg; replace HB := bs_ HB hb; clear hb hbox hg) | ((with_reducible refine gate_dst (N := 4) rfl ?_); refine be_ (N := 4) (cs := #[.slice none 0 0, .int .i64 0]) (t := 46) (h := ?_); intro gb291 hg w43 hbox hb; have BK291 := Aside0.mk (hbox); have GW291 := gw_ HB hg; have GE291 := gw_ HB hg; have NB290_291 := ne_ BK290 hg; have NB291_290 := en_ BK290 hg; replace BK290 := bb_ BK290 hb; replace HB := bs_ HB hb; clear hb hbox hg; have hnb44 := NB290_291.out; have hnc44 := NB291_290.out; obtain ⟨hcz45_0, hcz45_1, hfz45_0, hfz45_1⟩ := bc2_ BK290) | ((with_reducible refine gate_callee (f := 51) rfl ?_); refine ge_ (some 15) rfl rfl Try.func51 (by kernel_rfl) rfl #[.agg #[.slice A0_0 l0_0.length c0_0, .int .i64 a0_1], .int .i64 a1] rfl (h := ?_); (with_reducible refine (tree_Path.calls k _ _ l0_0 a0_1 a1 t292 t295 t298 _ ?side1 ?side2 A3.out).mono ?_); (case side1 => exact cw_ (Kd.C_below HR0_0.out HB.out)); (case side2 => exact HC0_0.out); rintro e w46 ⟨v293, v296, rfl, ho0, ho1, hb⟩; refine ⟨_, rfl, ?_⟩; have HO294 := Aside0.mk (Kd.R_lower ho0 (below_size (hb_ HB))); have HO297 := Aside0.mk (Kd.R_lower ho1 (below_size (hb_ HB))); replace BK290 := bb_ BK290 hb; replace BK291 := bb_ BK291 hb; replace HB := bs_ HB hb; (try clear hb); (try clear hb2); (try clear hk); (try clear hi); (try clear ho0); (try clear ho1); obtain ⟨hcz47_0, hcz47_1, hfz47_0, hfz47_1⟩ := bc2_ BK291))
  refine bodyPost_ret (results_ct rfl _ _ gb291 46 #[.slice none 0 0, .int .i64 0] (0, 0) _ rfl (bp_ BK291.out) Try.underlying46 rfl (by kernel_rfl)) rfl ?_
  exact ⟨_, er_, by first | exact Kd.R_nil _ _ _ _ _ | exact Kd.N_nil _ _ _ _ _ | exact Kd.V_nil _ _ _ _ _ | exact Kd.Q_nil _ _ _ _ _ | exact Kd.S_nil _ _ _ _ _, hb_ HB⟩

/-! ### calamusref11_with: function 81 -/
def calamusref11_with.l0 : Nat → List Int → Int → List (S69) → Int → Option ((List (S69)) × Int)
 | 0, _, _, _, _ => none
 | k + 1, x1, x2, x7, x8 => if x8 < (x1.length : Int) then (if 0 ≤ x8 then (if 0 ≤ (rd x1 x8) then (if (rd x1 x8) < (x7.length : Int) then (if 0 ≤ ((rd_T69 x7 (rd x1 x8)).f0) then (if ((rd_T69 x7 (rd x1 x8)).f0) < (x7.length : Int) then (calamusref11_with.l0 k x1 x2 (x7.set (((rd_T69 x7 (rd x1 x8)).f0) : Int).toNat (⟨(rd_T69 x7 ((rd_T69 x7 (rd x1 x8)).f0)).f0, rd x1 x8, (rd_T69 x7 ((rd_T69 x7 (rd x1 x8)).f0)).f2, (rd_T69 x7 ((rd_T69 x7 (rd x1 x8)).f0)).f3, (⟨(rd_T69 x7 ((rd_T69 x7 (rd x1 x8)).f0)).f4.f0, (rd_T69 x7 ((rd_T69 x7 (rd x1 x8)).f0)).f4.f1, (rd_T69 x7 ((rd_T69 x7 (rd x1 x8)).f0)).f4.f2⟩ : S24)⟩ : S69)) (wrap64 (x8 + 1))) else (none)) else (none)) else (none)) else (none)) else (none)) else (some (x7, x2))
def calamusref11_with.f (k : Nat) (l0_0 : List (S69)) (a0_1 : Int) (l1 : List Int) (a2 : Int) : Option ((List (S69)) × Int) := if ([] : List (S69)).length + l0_0.length < 1954687338268 then (calamusref11_with.l0 k l1 a2 (([] : List (S69)) ++ l0_0) 0) else (none)
theorem calamusref11_with.mono_l : ∀ k, (∀ y0 y1 y2 y3, LeO (calamusref11_with.l0 k y0 y1 y2 y3) (calamusref11_with.l0 (k + 1) y0 y1 y2 y3))
 | 0 => fun _ _ _ _ r h => by simp [calamusref11_with.l0] at h
 | k + 1 => by
  have ih0 := calamusref11_with.mono_l k
  ·intro y0 y1 y2 y3
   unfold calamusref11_with.l0
   repeat' first
   | (with_reducible exact ih0 _ _ _ _)
   | (with_reducible exact LeO.refl _)
   | (with_reducible exact LeO.none _)
   | (with_reducible refine LeO.ite ?_ ?_)
   | (with_reducible refine LeO.bind ?_ (fun _ => ?_))
   | exact ih0 _ _ _ _
   | exact LeO.none _
   | refine LeO.ite ?_ ?_
   | refine LeO.bind ?_ (fun _ => ?_)
theorem calamusref11_with.mono : ∀ a0 a1 a2 a3 k, LeO (calamusref11_with.f k a0 a1 a2 a3) (calamusref11_with.f (k + 1) a0 a1 a2 a3) := by
 intro a0 a1 a2 a3 k
 have ih0 := calamusref11_with.mono_l k
 unfold calamusref11_with.f
 repeat' first
   | (with_reducible exact ih0 _ _ _ _)
   | (with_reducible exact LeO.refl _)
   | (with_reducible exact LeO.none _)
   | (with_reducible refine LeO.ite ?_ ?_)
   | (with_reducible refine LeO.bind ?_ (fun _ => ?_))
   | exact ih0 _ _ _ _
   | exact LeO.none _
   | refine LeO.ite ?_ ?_
   | refine LeO.bind ?_ (fun _ => ?_)
def calamusref11_with.T6 : Bool × List (List Nat × List Nat) := (true, [([], []), ([], []), ([], []), ([], []), ([2, 3], [2, 3]), ([4], [4]), ([1, 5], [1, 5]), ([6], [6]), ([7], [7]), ([], []), ([], []), ([9, 10], [9, 10]), ([11], [11]), ([0, 8, 0, 1, 2, 3, 4, 5, 6, 7, 8, 9, 10, 11, 12], [0, 8]), ([13, 0, 1, 2, 3, 4, 5, 6, 7, 8, 9, 10, 11, 12], [13]), ([14, 12, 0, 1, 2, 3, 4, 5, 6, 7, 8, 9, 10, 11, 12], [12, 14])])
def calamusref11_with.B6 : List Nat := [0, 0, 0, 0, 12, 28, 62, 126, 254, 0, 0, 1536, 3584, 8191, 16383, 32767]
theorem calamusref11_with.tab6 : rtab .any (opsOf Try.f81 6) = calamusref11_with.T6 := by kernel_rfl
theorem calamusref11_with.bits6 : waitsOk calamusref11_with.T6.2 calamusref11_with.B6 = true := by kernel_rfl
set_option maxHeartbeats 8000000 in
set_option maxRecDepth 100000 in
theorem calamusref11_with.calls (k : Nat) (A0_0 : Option Addr) (c0_0 : Nat) (l0_0 : List (S69)) (a0_1 : Int) (A1 : Option Addr) (c1 : Nat) (l1 : List Int) (a2 : Int) (r1 : List (S69)) (r2 : Int) (w : World) (hr0_0 : Kd.C k69 w A0_0 l0_0.length l0_0) (hc0_0 : l0_0.length ≤ c0_0) (hr1 : Kd.C (Kd.int .i64) w A1 l1.length l1) (hc1 : l1.length ≤ c1) (h : calamusref11_with.f k l0_0 a0_1 l1 a2 = some (r1, r2)) :
  Calls Try.prog 81 #[.agg #[.slice A0_0 l0_0.length c0_0, .int .i64 a0_1], .slice A1 l1.length c1, .int .i64 a2] w fun e w' => ∃ v0_ : Value, e = .returned (.agg #[v0_, .int .i64 r2]) ∧ Kd.R k69 69 w' w.heap.size (fun _ => True) v0_ r1 ∧ Below w.heap.size w w' := by
 have hu46 := Try.underlying46
 have HR0_0 := Aside0.mk hr0_0
 have HC0_0 := Aside0.mk hc0_0
 clear hr0_0 hc0_0
 have HR1 := Aside0.mk hr1
 have HC1 := Aside0.mk hc1
 clear hr1 hc1
 have HB := Aside0.mk (Below.refl w.heap.size w)
 have H : (if ([] : List (S69)).length + l0_0.length < 1954687338268 then (calamusref11_with.l0 k l1 a2 (([] : List (S69)) ++ l0_0) 0) else (none)) = some (r1, r2) := h
 clear h
 by_cases c4 : ([] : List (S69)).length + l0_0.length < 1954687338268
 ·rw [if_pos c4] at H
  have LMc4 := Aside0.mk c4
  clear c4
  obtain ⟨y317, hy317⟩ : ∃ y_ : List (S69), y_ = (([] : List (S69)) ++ l0_0) := ⟨_, rfl⟩
  replace H : (calamusref11_with.l0 k l1 a2 y317 0) = some (r1, r2) := th_ H hy317
  have Ny317 := Aside0.mk hy317
  clear hy317
  have H' := Aside0.mk H
  clear H
  go_enter Try.func81, Try.ntmps81
  go_wp2_with (first | ((with_reducible refine gate_dst (N := 3) rfl ?_); refine be_ (N := 3) (cs := #[.slice A0_0 l0_0.length c0_0, .int .i64 a0_1]) (t := 46) (h := ?_); intro gb315 hg w5 hbox hb; have BK315 := Aside0.mk (hbox); have GW315 := gw_ HB hg; have GE315 := gw_ HB hg; replace HB := bs_ HB hb; clear hb hbox hg) | ((with_reducible refine gate_dst (N := 6) rfl ?_); refine be_ (N := 6) (cs := #[.slice none 0 0, .int .i64 0]) (t := 46) (h := ?_); intro gb316 hg w6 hbox hb; have BK316 := Aside0.mk (hbox); have GW316 := gw_ HB hg; have GE316 := gw_ HB hg; have NB315_316 := ne_ BK315 hg; have NB316_315 := en_ BK315 hg; replace BK315 := bb_ BK315 hb; replace HB := bs_ HB hb; clear hb hbox hg; have hnb7 := NB315_316.out; have hnc7 := NB316_315.out; obtain ⟨hcz8_0, hcz8_1, hfz8_0, hfz8_1⟩ := bc2_ BK315) | ((with_reducible refine gate_builtin (b := .append) (xs := #[.tmp 9, .tmp 11]) rfl ?_); at_builtin; refine Kd.R_append_rows k69 (w0 := w) w.heap.size rfl (.tmp 9) (.tmp 11) 44 69 (.agg #[(.int .i64 0), (.int .i64 0), (.int .i64 0), (.int .i64 0), (.int .i64 0), (.string ⟨#[]⟩), (.string ⟨#[]⟩)]) 72 rfl Try.underlying44 info69 rfl (by decide) (by omega) (.slice none 0 0) ([] : List (S69)) l0_0 _ _ _ (fun _ => True) (fun _ => False) rfl rfl ?aO ?aR (fun _ _ h => h) (fun _ h => h.elim) ?aF ?aB ?aS ?aL ?_; (case aR => repeat (first | exact (Kd.C_below HR0_0.out HB.out) | (with_reducible refine Kd.C_alloc ?_ _) | (with_reducible refine Kd.C_drewN ?_ _) | (with_reducible refine Kd.C_drew ?_))); (case aB => exact (hb_ HB)); (case aF => exact (fun _ _ => trivial)); (case aO => exact ((Kd.R_nil _ _ _ _ (fun _ => True)))); (case aS => exact (below_size (hb_ HB))); (case aL => have := LMc4.out; omega); intro v318 w9 ho hb hg hat; rw [← Ny317.out] at ho; have HO319 := Aside0.mk (ho); replace BK315 := Aside0.mk (blk_grown (g := gb315) (o := .cells #[.slice A0_0 l0_0.length c0_0, .int .i64 a0_1] 46 (0, 0)) (bw_ BK315.out) hg (by simp [Value.ownBlock])); replace BK316 := Aside0.mk (blk_grown (g := gb316) (o := .cells #[.slice none 0 0, .int .i64 0] 46 (0, 0)) (bw_ BK316.out) hg (by simp [Value.ownBlock])); replace HB := Aside0.mk (hb); clear ho hb hg hat))
  go_loopg [8] k (fun kq v8 w' => ∃ (x7_1 : List (S69)) (x8_1 : Int), v8 = .int .i64 x8_1 ∧ Aside0 (calamusref11_with.l0 kq l1 a2 x7_1 x8_1 = some (r1, r2)) ∧ Aside0 (kq ≤ k) ∧ Aside0 (Kd.R k69 69 w' w.heap.size (fun _ => True) v318 x7_1) ∧ Aside0 (w'.heap[gb315]? = some (.cells #[(.slice A0_0 l0_0.length c0_0), .int .i64 a0_1] 46 (0, 0))) ∧ Aside0 (w'.heap[gb316]? = some (.cells #[(.slice none 0 0), .int .i64 0] 46 (0, 0))) ∧ Aside0 (Below w.heap.size w w'))
  case atStart => exact ⟨(y317), (0), es_, H', ⟨Nat.le_refl _⟩, ⟨rw_ HO319.out⟩, ⟨bw_ BK315.out⟩, ⟨bw_ BK316.out⟩, ⟨hb_ HB⟩⟩
  case round =>
   clear H'
   try clear c4
   try clear hcz8_0
   try clear hcz8_1
   try clear hfz8_0
   try clear hfz8_1
   obtain ⟨x7_1, x8_1, rfl, HA, HK1, HO_7, BK315, BK316, HB⟩ := hrel
   cases gk with
   | zero => exact absurd HA.out (by simp [calamusref11_with.l0])
   | succ k1 =>
    have H := HA.out
    clear HA
    simp only [calamusref11_with.l0] at H
    by_cases c10 : x8_1 < (l1.length : Int)
    ·rw [if_pos c10] at H
     have c10b0 : decide (x8_1 < (l1.length : Int)) = true := decide_eq_true c10
     clear c10
     by_cases c11 : 0 ≤ x8_1
     ·rw [if_pos c11] at H
      have c11b0 : decide (0 ≤ x8_1) = true := decide_eq_true c11
      clear c11
      by_cases c12 : 0 ≤ (rd l1 x8_1)
      ·rw [if_pos c12] at H
       have c12b0 : decide (0 ≤ (rd l1 x8_1)) = true := decide_eq_true c12
       clear c12
       by_cases c13 : (rd l1 x8_1) < (x7_1.length : Int)
       ·rw [if_pos c13] at H
        have c13b0 : decide ((rd l1 x8_1) < (x7_1.length : Int)) = true := decide_eq_true c13
        clear c13
        by_cases c14 : 0 ≤ ((rd_T69 x7_1 (rd l1 x8_1)).f0)
        ·rw [if_pos c14] at H
         have c14b0 : decide (0 ≤ ((rd_T69 x7_1 (rd l1 x8_1)).f0)) = true := decide_eq_true c14
         clear c14
         by_cases c15 : ((rd_T69 x7_1 (rd l1 x8_1)).f0) < (x7_1.length : Int)
         ·rw [if_pos c15] at H
          have c15b0 : decide (((rd_T69 x7_1 (rd l1 x8_1)).f0) < (x7_1.length : Int)) = true := decide_eq_true c15
          clear c15
          obtain ⟨y323, hy323⟩ : ∃ y_ : List (S69), y_ = (x7_1.set (((rd_T69 x7_1 (rd l1 x8_1)).f0) : Int).toNat (⟨(rd_T69 x7_1 ((rd_T69 x7_1 (rd l1 x8_1)).f0)).f0, rd l1 x8_1, (rd_T69 x7_1 ((rd_T69 x7_1 (rd l1 x8_1)).f0)).f2, (rd_T69 x7_1 ((rd_T69 x7_1 (rd l1 x8_1)).f0)).f3, (⟨(rd_T69 x7_1 ((rd_T69 x7_1 (rd l1 x8_1)).f0)).f4.f0, (rd_T69 x7_1 ((rd_T69 x7_1 (rd l1 x8_1)).f0)).f4.f1, (rd_T69 x7_1 ((rd_T69 x7_1 (rd l1 x8_1)).f0)).f4.f2⟩ : S24)⟩ : S69)) := ⟨_, rfl⟩
          replace H : (calamusref11_with.l0 k1 l1 a2 y323 (wrap64 (x8_1 + 1))) = some (r1, r2) := th_ H hy323
          have Ny323 := Aside0.mk hy323
          clear hy323
          have H' := Aside0.mk H
          clear H
          try go_wp2
          have n0_ := Aside0.mk (Kd.R_drew HO_7.out)
          have n1_ := Aside0.mk (blk_drew BK315.out)
          have n2_ := Aside0.mk (blk_drew BK316.out)
          have n3_ := Aside0.mk (below_drew1 HB.out)
          clear HO_7
          clear BK315
          clear BK316
          clear HB
          have HO_7 := n0_
          have BK315 := n1_
          have BK316 := n2_
          have HB := n3_
          clear n0_ n1_ n2_ n3_
          have p320 : 0 ≤ (x8_1 : Int) := of_decide_eq_true as_
          have q320 : x8_1 < (l1.length : Int) := of_decide_eq_true as_
          obtain ⟨ad320, e320, hx320_0⟩ := Kd.at_int HR1.out x8_1 p320 q320
          have hw320_0 := hx320_0
          cases e320
          replace hx320_0 := cb_ HB hx320_0
          replace p320 := eq_true p320
          replace q320 := eq_true q320
          obtain ⟨Ao18, co18, eo18⟩ := Kd.R_slice HO_7.out
          (first | subst eo18 | (injection eo18 with f1_ f2_ f3_; have f4_ := f1_.symm; have f5_ := f3_.symm; clear f1_ f2_ f3_; subst f4_; subst f5_))
          have p321 : 0 ≤ ((rd l1 x8_1) : Int) := of_decide_eq_true as_
          have q321 : (rd l1 x8_1) < (x7_1.length : Int) := of_decide_eq_true as_
          obtain ⟨ad321, e321, hx321_0, hx321_1, hx321_2, hx321_3, hx321_4, hx321_5, hx321_6⟩ := at_T69 (Kd.R_reads' HO_7.out).2.2 (rd l1 x8_1) p321 q321
          cases e321
          replace p321 := eq_true p321
          replace q321 := eq_true q321
          have p322 : 0 ≤ (x8_1 : Int) := of_decide_eq_true as_
          have q322 : x8_1 < (l1.length : Int) := of_decide_eq_true as_
          obtain ⟨ad322, e322, hx322_0⟩ := Kd.at_int HR1.out x8_1 p322 q322
          have hw322_0 := hx322_0
          obtain rfl : ad320 = ad322 := (by injection e322)
          replace hx322_0 := cb_ HB hx322_0
          replace p322 := eq_true p322
          replace q322 := eq_true q322
          have p16 : 0 ≤ (((rd_T69 x7_1 (rd l1 x8_1)).f0) : Int) := of_decide_eq_true as_
          have q16 : (((rd_T69 x7_1 (rd l1 x8_1)).f0) : Int) < ((x7_1.length : Int) : Int) := of_decide_eq_true as_
          obtain ⟨go16, co16, eo16, gb16, gl16, cl16, HG16⟩ := Kd.R_form HO_7.out (by omega)
          (first | cases eo16 | (injection eo16 with ea_ en_ ec_; (first | subst ea_ | (injection ea_ with ea_; subst ea_)); subst ec_; clear en_))
          have GB16 := Aside0.mk gb16
          have GG16 := Aside0.mk HG16
          clear gb16 gl16 HG16
          (first | simp only [add_plain] at hx321_0 | skip)
          (first | simp only [add_plain] at hx321_1 | skip)
          (first | simp only [add_plain] at hx321_2 | skip)
          (first | simp only [add_plain] at hx321_3 | skip)
          (first | simp only [add_plain] at hx321_4 | skip)
          (first | simp only [add_plain] at hx321_5 | skip)
          (first | simp only [add_plain] at hx321_6 | skip)
          obtain ⟨ce16, hcl16, hM16, hcc16, hfr16⟩ := Kd.R_elem HO_7.out z69 (((rd_T69 x7_1 (rd l1 x8_1)).f0) : Int) p16 q16
          obtain rfl := k69_openM hM16
          have hx16_0 : World.cell? _ ⟨go16, (((rd_T69 x7_1 (rd l1 x8_1)).f0) : Int).toNat * 7, none⟩ = some (.int .i64 ((rd_T69 x7_1 ((rd_T69 x7_1 (rd l1 x8_1)).f0)).f0)) := hcc16 0 _ rfl
          have hx16_1 : World.cell? _ ⟨go16, (((rd_T69 x7_1 (rd l1 x8_1)).f0) : Int).toNat * 7 + 1, none⟩ = some (.int .i64 ((rd_T69 x7_1 ((rd_T69 x7_1 (rd l1 x8_1)).f0)).f1)) := hcc16 1 _ rfl
          have hx16_2 : World.cell? _ ⟨go16, (((rd_T69 x7_1 (rd l1 x8_1)).f0) : Int).toNat * 7 + 2, none⟩ = some (.int .i64 ((rd_T69 x7_1 ((rd_T69 x7_1 (rd l1 x8_1)).f0)).f2)) := hcc16 2 _ rfl
          have hx16_3 : World.cell? _ ⟨go16, (((rd_T69 x7_1 (rd l1 x8_1)).f0) : Int).toNat * 7 + 3, none⟩ = some (.int .i64 ((rd_T69 x7_1 ((rd_T69 x7_1 (rd l1 x8_1)).f0)).f3)) := hcc16 3 _ rfl
          have hx16_4 : World.cell? _ ⟨go16, (((rd_T69 x7_1 (rd l1 x8_1)).f0) : Int).toNat * 7 + 4, none⟩ = some (.int .i64 ((rd_T69 x7_1 ((rd_T69 x7_1 (rd l1 x8_1)).f0)).f4.f0)) := hcc16 4 _ rfl
          have hx16_5 : World.cell? _ ⟨go16, (((rd_T69 x7_1 (rd l1 x8_1)).f0) : Int).toNat * 7 + 5, none⟩ = some (.string ((rd_T69 x7_1 ((rd_T69 x7_1 (rd l1 x8_1)).f0)).f4.f1)) := hcc16 5 _ rfl
          have hx16_6 : World.cell? _ ⟨go16, (((rd_T69 x7_1 (rd l1 x8_1)).f0) : Int).toNat * 7 + 6, none⟩ = some (.string ((rd_T69 x7_1 ((rd_T69 x7_1 (rd l1 x8_1)).f0)).f4.f2)) := hcc16 6 _ rfl
          have hf16_0 : World.frozen? _ ⟨go16, (((rd_T69 x7_1 (rd l1 x8_1)).f0) : Int).toNat * 7, none⟩ = false := hfr16 0
          have hf16_1 : World.frozen? _ ⟨go16, (((rd_T69 x7_1 (rd l1 x8_1)).f0) : Int).toNat * 7 + 1, none⟩ = false := hfr16 1
          have hf16_2 : World.frozen? _ ⟨go16, (((rd_T69 x7_1 (rd l1 x8_1)).f0) : Int).toNat * 7 + 2, none⟩ = false := hfr16 2
          have hf16_3 : World.frozen? _ ⟨go16, (((rd_T69 x7_1 (rd l1 x8_1)).f0) : Int).toNat * 7 + 3, none⟩ = false := hfr16 3
          have hf16_4 : World.frozen? _ ⟨go16, (((rd_T69 x7_1 (rd l1 x8_1)).f0) : Int).toNat * 7 + 4, none⟩ = false := hfr16 4
          have hf16_5 : World.frozen? _ ⟨go16, (((rd_T69 x7_1 (rd l1 x8_1)).f0) : Int).toNat * 7 + 5, none⟩ = false := hfr16 5
          have hf16_6 : World.frozen? _ ⟨go16, (((rd_T69 x7_1 (rd l1 x8_1)).f0) : Int).toNat * 7 + 6, none⟩ = false := hfr16 6
          clear hcl16 hcc16 hfr16 hM16
          replace p16 := eq_true p16
          replace q16 := eq_true q16
          obtain ⟨ce19, hcl19, hM19, hcc19, hfr19⟩ := Kd.R_elem HO_7.out z69 (((rd_T69 x7_1 (rd l1 x8_1)).f0) : Int) (of_decide_eq_true as_) (by have h_ : (((rd_T69 x7_1 (rd l1 x8_1)).f0) : Int) < ((x7_1.length : Int) : Int) := of_decide_eq_true as_; first | exact h_ | (have e_ := (Kd.R_reads' HO_7.out).1; omega) | simpa using h_)
          obtain rfl := k69_openM hM19
          have HP19 := (Kd.R_seg HO_7.out (((rd_T69 x7_1 (rd l1 x8_1)).f0) : Int) (of_decide_eq_true as_) (by have h_ : (((rd_T69 x7_1 (rd l1 x8_1)).f0) : Int) < ((x7_1.length : Int) : Int) := of_decide_eq_true as_; first | exact h_ | (have e_ := (Kd.R_reads' HO_7.out).1; omega) | simpa using h_) (seg := [.int .i64 (rd l1 x8_1)]) (j := 1) hcl19 hcc19 (show 2 ≤ 7 from by decide) (x' := (⟨(rd_T69 x7_1 ((rd_T69 x7_1 (rd l1 x8_1)).f0)).f0, rd l1 x8_1, (rd_T69 x7_1 ((rd_T69 x7_1 (rd l1 x8_1)).f0)).f2, (rd_T69 x7_1 ((rd_T69 x7_1 (rd l1 x8_1)).f0)).f3, (⟨(rd_T69 x7_1 ((rd_T69 x7_1 (rd l1 x8_1)).f0)).f4.f0, (rd_T69 x7_1 ((rd_T69 x7_1 (rd l1 x8_1)).f0)).f4.f1, (rd_T69 x7_1 ((rd_T69 x7_1 (rd l1 x8_1)).f0)).f4.f2⟩ : S24)⟩ : S69)) (k69_mkM _ _ _ (⟨(rd_T69 x7_1 ((rd_T69 x7_1 (rd l1 x8_1)).f0)).f0, rd l1 x8_1, (rd_T69 x7_1 ((rd_T69 x7_1 (rd l1 x8_1)).f0)).f2, (rd_T69 x7_1 ((rd_T69 x7_1 (rd l1 x8_1)).f0)).f3, (⟨(rd_T69 x7_1 ((rd_T69 x7_1 (rd l1 x8_1)).f0)).f4.f0, (rd_T69 x7_1 ((rd_T69 x7_1 (rd l1 x8_1)).f0)).f4.f1, (rd_T69 x7_1 ((rd_T69 x7_1 (rd l1 x8_1)).f0)).f4.f2⟩ : S24)⟩ : S69) ) (fun _ hk => hk)).1
          rw [← Ny323.out] at HP19
          have HQ19 := Aside0.mk HP19
          clear hcl19 hcc19 hfr19 hM19 HP19
          refine start_ (n := 16) (S := fun w' => w'.cell? (ad320.add (x8_1).toNat) = some (.int .i64 (rd l1 x8_1)) ∧ w'.cell? (⟨go16, (((rd l1 x8_1)).toNat * 7), none⟩ : Addr) = some (.int .i64 ((rd_T69 x7_1 (rd l1 x8_1)).f0)) ∧ w'.cell? ⟨go16, ((((rd l1 x8_1)).toNat * 7)) + 1, none⟩ = some (.int .i64 ((rd_T69 x7_1 (rd l1 x8_1)).f1)) ∧ w'.cell? ⟨go16, ((((rd l1 x8_1)).toNat * 7)) + 2, none⟩ = some (.int .i64 ((rd_T69 x7_1 (rd l1 x8_1)).f2)) ∧ w'.cell? ⟨go16, ((((rd l1 x8_1)).toNat * 7)) + 3, none⟩ = some (.int .i64 ((rd_T69 x7_1 (rd l1 x8_1)).f3)) ∧ w'.cell? ⟨go16, ((((rd l1 x8_1)).toNat * 7)) + 4, none⟩ = some (.int .i64 ((rd_T69 x7_1 (rd l1 x8_1)).f4.f0)) ∧ w'.cell? ⟨go16, ((((rd l1 x8_1)).toNat * 7)) + 5, none⟩ = some (.string ((rd_T69 x7_1 (rd l1 x8_1)).f4.f1)) ∧ w'.cell? ⟨go16, ((((rd l1 x8_1)).toNat * 7)) + 6, none⟩ = some (.string ((rd_T69 x7_1 (rd l1 x8_1)).f4.f2)) ∧ w'.cell? (ad320.add (x8_1).toNat) = some (.int .i64 (rd l1 x8_1))) (ds := [15]) #[false, false, false, false, false, false, false, false, false, false, false, false, false, false, false, false] (by kernel_rfl) rfl rfl ⟨((HB.out.cell (World.block_lt_of_cell? w _ hw320_0)).trans hw320_0), hx321_0, hx321_1, hx321_2, hx321_3, hx321_4, hx321_5, hx321_6, ((HB.out.cell (World.block_lt_of_cell? w _ hw322_0)).trans hw322_0)⟩ (fun hHeld => ?_); refine with_tabW calamusref11_with.tab6 calamusref11_with.bits6 (fun HT_ HW_ => ?_)
          generalize wr.drew = w17 at HO_7 BK315 BK316 HB GG16 HQ19 hf16_0 hf16_1 hf16_2 hf16_3 hf16_4 hf16_5 hf16_6 hx16_0 hx16_1 hx16_2 hx16_3 hx16_4 hx16_5 hx16_6 hx320_0 hx321_0 hx321_1 hx321_2 hx321_3 hx321_4 hx321_5 hx321_6 hx322_0 hHeld ⊢
          refine pp_ (i := 0) (N := some 19) #[true, false, false, false, false, false, false, false, false, false, false, false, false, false, false, false] rfl rfl (any_of HT_.out (by kernel_rfl)) (h := ?_)
          refine pp_ (i := 1) (N := some 20) #[true, true, false, false, false, false, false, false, false, false, false, false, false, false, false, false] rfl rfl (any_of HT_.out (by kernel_rfl)) (h := ?_)
          refine pp_ (i := 2) (N := some 21) #[true, true, true, false, false, false, false, false, false, false, false, false, false, false, false, false] rfl rfl (any_of HT_.out (by kernel_rfl)) (h := ?_)
          refine pp_ (i := 3) (N := some 22) #[true, true, true, true, false, false, false, false, false, false, false, false, false, false, false, false] rfl rfl (any_of HT_.out (by kernel_rfl)) (h := ?_)
          refine pp_ (i := 4) (N := some 23) #[true, true, true, true, true, false, false, false, false, false, false, false, false, false, false, false] rfl rfl (any_of HT_.out (by kernel_rfl)) (h := ?_)
          refine pp_ (i := 9) (N := some 28) #[true, true, true, true, true, false, false, false, false, true, false, false, false, false, false, false] rfl rfl (any_of HT_.out (by kernel_rfl)) (h := ?_)
          refine pp_ (i := 10) (N := some 29) #[true, true, true, true, true, false, false, false, false, true, true, false, false, false, false, false] rfl rfl (any_of HT_.out (by kernel_rfl)) (h := ?_)
          refine pp_ (i := 11) (N := some 30) #[true, true, true, true, true, false, false, false, false, true, true, true, false, false, false, false] rfl rfl (any_of HT_.out (by kernel_rfl)) (h := ?_)
          refine take_ (i := 5) (N := some 24) (v := ?_) (a' := ?_) #[true, true, true, true, true, true, false, false, false, true, true, true, false, false, false, false] rfl rfl (take_ofW HT_.out HW_.out (by kernel_rfl)) (fun _ _ _ h => h) (Or.inl ⟨by rfl, ?_⟩) hHeld ?_ ?_
          rotate_left
          ·rintro w' ⟨s0, s1, s2, s3, s4, s5, s6, s7, s8⟩
           go_simp
           with_reducible rfl
          rotate_left
          ·simp only [Act.put, List.setIfInBounds_toArray, List.set_cons_zero, List.set_cons_succ, i64_w, i32_w]
           rfl
          refine pp_ (i := 6) (N := some 25) #[true, true, true, true, true, true, true, false, false, true, true, true, false, false, false, false] rfl rfl (any_of HT_.out (by kernel_rfl)) (h := ?_)
          refine pp_ (i := 7) (N := some 26) #[true, true, true, true, true, true, true, true, false, true, true, true, false, false, false, false] rfl rfl (any_of HT_.out (by kernel_rfl)) (h := ?_)
          refine take_ (i := 8) (N := some 27) (v := ?_) (a' := ?_) #[true, true, true, true, true, true, true, true, true, true, true, true, false, false, false, false] rfl rfl (take_ofW HT_.out HW_.out (by kernel_rfl)) (fun _ _ _ h => h) (Or.inl ⟨by rfl, ?_⟩) hHeld ?_ ?_
          rotate_left
          ·rintro w' ⟨s0, s1, s2, s3, s4, s5, s6, s7, s8⟩
           go_simp
           with_reducible rfl
          rotate_left
          ·simp only [Act.put, List.setIfInBounds_toArray, List.set_cons_zero, List.set_cons_succ, i64_w, i32_w]
           rfl
          refine take_ (i := 12) (N := some 31) (v := ?_) (a' := ?_) #[true, true, true, true, true, true, true, true, true, true, true, true, true, false, false, false] rfl rfl (take_ofW HT_.out HW_.out (by kernel_rfl)) (fun _ _ _ h => h) (Or.inl ⟨by rfl, ?_⟩) hHeld ?_ ?_
          rotate_left
          ·rintro w' ⟨s0, s1, s2, s3, s4, s5, s6, s7, s8⟩
           go_simp
           with_reducible rfl
          rotate_left
          ·simp only [Act.put, List.setIfInBounds_toArray, List.set_cons_zero, List.set_cons_succ, i64_w, i32_w]
           rfl
          refine pp_ (i := 13) (N := some 32) #[true, true, true, true, true, true, true, true, true, true, true, true, true, true, false, false] rfl rfl (any_of HT_.out (by kernel_rfl)) (h := ?_)
          refine pp_ (i := 14) (N := some 33) #[true, true, true, true, true, true, true, true, true, true, true, true, true, true, true, false] rfl rfl (any_of HT_.out (by kernel_rfl)) (h := ?_)
          refine last_ (i := 15) (N := none) #[true, true, true, true, true, true, true, true, true, true, true, true, true, true, true, true] rfl rfl (one_of HT_.out (by kernel_rfl)) (by decide) (fun K hK => ?_)
          refine skip_ (w1 := ?_) (by rfl) rfl ?_ ?_
          rotate_left
          ·go_simp
           rfl
          refine hK.out _ _ ?_
          clear hK K
          refine done_ (done_of HT_.out (by kernel_rfl)) ?_
          try go_wp2
          go_roundg k1
          case measure => have := HK1.out; omega
          case rel => exact ⟨(y323), (wrap64 (x8_1 + 1)), es_, H', ⟨by have := HK1.out; omega⟩, ⟨rw_ HQ19.out⟩, ⟨by (with_reducible repeat (first | refine blk_drewN ?_ _ | refine blk_drew ?_ | refine blk_alloc ?_ _)); refine blk_far ?_ (by have h_ := Kd.R_ne HO_7.out BK315.out (by decide); intro e_; exact h_ (by rw [e_]; rfl)) _; (with_reducible repeat (first | refine blk_drewN ?_ _ | refine blk_drew ?_ | refine blk_alloc ?_ _)); exact BK315.out⟩, ⟨by (with_reducible repeat (first | refine blk_drewN ?_ _ | refine blk_drew ?_ | refine blk_alloc ?_ _)); refine blk_far ?_ (by have h_ := Kd.R_ne HO_7.out BK316.out (by decide); intro e_; exact h_ (by rw [e_]; rfl)) _; (with_reducible repeat (first | refine blk_drewN ?_ _ | refine blk_drew ?_ | refine blk_alloc ?_ _)); exact BK316.out⟩, ⟨by repeat (first | (with_reducible first | exact HB.out | apply below_alloc | apply pw_below_drewN | apply below_drew1 | refine below_set ?_ GB16.out | refine below_set ?_ GE315.out | refine below_set ?_ GE316.out) | exact HB.out)⟩⟩
         ·rw [if_neg c15] at H
          exact absurd H (by simp)
        ·rw [if_neg c14] at H
         exact absurd H (by simp)
       ·rw [if_neg c13] at H
        exact absurd H (by simp)
      ·rw [if_neg c12] at H
       exact absurd H (by simp)
     ·rw [if_neg c11] at H
      exact absurd H (by simp)
    ·rw [if_neg c10] at H
     have c10b0 : decide (x8_1 < (l1.length : Int)) = false := decide_eq_false c10
     clear c10
     simp only [Option.some.injEq, Prod.mk.injEq] at H
     obtain ⟨rfl, rfl⟩ := H
     obtain ⟨Ao20, co20, eo20⟩ := Kd.R_slice HO_7.out
     subst eo20
     have hnb21 := NB316_315.out
     have hnc21 := NB315_316.out
     obtain ⟨hcz22_0, hcz22_1, hfz22_0, hfz22_1⟩ := bc2_ BK316
     go_wp2
     refine bodyPost_ret (results_cell_row rfl _ _ gb316 46 #[.slice Ao20 x7_1.length co20, .int .i64 a2] (0, 0) _ rfl (bp_ BK316.out) Try.underlying46 rfl (by kernel_rfl)) rfl ?_
     exact ⟨_, er_, by (with_reducible repeat (first | apply Kd.R_alloc | apply Kd.R_drewN | apply Kd.R_drew)); exact Kd.R_mono (rf_ (Kd.R_types HO_7.out BK316.out (by decide)) (fun _ hk => hk.2)) (fun _ hk => trivial), hb_ HB⟩
 ·rw [if_neg c4] at H
  exact absurd H (by simp)

end Go.Proofs.Ytkiokimpblimcaa.PTreeGoes
