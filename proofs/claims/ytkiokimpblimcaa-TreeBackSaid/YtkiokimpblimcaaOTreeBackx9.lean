/- Of the law calamus/calamuslaw11.TreeBack: each function as a plain Lean function, with a proof that the call comes to it; the row. By wip/tpl/own_print.py. Conditions: none but the row's own. -/
import Derived.Test.YtkiokimpblimcaaOTreeBackx0
import Derived.Test.YtkiokimpblimcaaOTreeBackx4
import Derived.Test.YtkiokimpblimcaaOTreeBackx7
import Derived.Test.YtkiokimpblimcaaOTreeBackx8
namespace Go.Proofs.Ytkiokimpblimcaa.PTreeBack
open Go.RowKit Go.Proofs.YtkiokimpblimcaaW.PrintWords Go.Proofs.YtkiokimpblimcaaW.PrintLast Go.Proofs.YtkiokimpblimcaaW.PrintMore
attribute [local go_sem] max2_int min2_int max_two min_two max_three min_three max_four min_four   -- for this text's walks alone
set_option linter.unusedVariables false
set_option linter.unusedSimpArgs false

/-! ### tree_To: function 53 -/
def tree_To.l0 : Nat → Int → List Int → Int → Int → List (S69) → Int → Option ((List (S69)) × Int × Int)
 | 0, _, _, _, _, _, _ => none
 | k + 1, x1, x29, x30, x31, x314000, x314001 => if x31 < x30 then (if 0 ≤ x31 then (if x31 < (x29.length : Int) then (if (rd x29 x31) > 0 then (if 0 ≤ (rd x29 x31) then (if (rd x29 x31) < (x314000.length : Int) then (if 0 ≤ ((rd_T69 x314000 (rd x29 x31)).f0) then (if ((rd_T69 x314000 (rd x29 x31)).f0) < (x314000.length : Int) then (tree_To.l0 k x1 x29 x30 (wrap64 (x31 + 1)) (x314000.set (((rd_T69 x314000 (rd x29 x31)).f0) : Int).toNat (⟨(rd_T69 x314000 ((rd_T69 x314000 (rd x29 x31)).f0)).f0, rd x29 x31, (rd_T69 x314000 ((rd_T69 x314000 (rd x29 x31)).f0)).f2, (rd_T69 x314000 ((rd_T69 x314000 (rd x29 x31)).f0)).f3, (⟨(rd_T69 x314000 ((rd_T69 x314000 (rd x29 x31)).f0)).f4.f0, (rd_T69 x314000 ((rd_T69 x314000 (rd x29 x31)).f0)).f4.f1, (rd_T69 x314000 ((rd_T69 x314000 (rd x29 x31)).f0)).f4.f2⟩ : S24)⟩ : S69)) x314001) else (none)) else (none)) else (none)) else (none)) else (tree_To.l0 k x1 x29 x30 (wrap64 (x31 + 1)) x314000 x314001)) else (none)) else (none)) else (some (x314000, x1, 0))
def tree_To.f (k : Nat) (l0_0 : List (S69)) (a0_1 : Int) (a1 : Int) : Option ((List (S69)) × Int × Int) := (tree_Path.f k l0_0 a0_1 a1).bind fun bt297 => (if bt297.2.2 = 0 then ((tree_open.f k l0_0 a0_1).bind fun bt304 => ((tree_book_copy.f bt304.1 bt304.2.1).bind fun bt309 => ((tree_book_up.f k bt309.1 bt309.2 a1).bind fun t314 => (tree_To.l0 k a1 t314 (t314.length : Int) 0 bt309.1 bt309.2)))) else (some (([] : List (S69)), 0, bt297.2.2)))
theorem tree_To.mono_l : ∀ k, (∀ y0 y1 y2 y3 y4 y5, LeO (tree_To.l0 k y0 y1 y2 y3 y4 y5) (tree_To.l0 (k + 1) y0 y1 y2 y3 y4 y5))
 | 0 => fun _ _ _ _ _ _ r h => by simp [tree_To.l0] at h
 | k + 1 => by
  have ih0 := tree_To.mono_l k
  ·intro y0 y1 y2 y3 y4 y5
   unfold tree_To.l0
   repeat' first
   | (with_reducible exact ih0 _ _ _ _ _ _)
   | (with_reducible exact tree_Path.mono _ _ _ _)
   | (with_reducible exact tree_book_up.mono _ _ _ _)
   | (with_reducible exact tree_open.mono _ _ _)
   | (with_reducible exact LeO.refl _)
   | (with_reducible exact LeO.none _)
   | (with_reducible refine LeO.ite ?_ ?_)
   | (with_reducible refine LeO.bind ?_ (fun _ => ?_))
   | exact ih0 _ _ _ _ _ _
   | exact tree_Path.mono _ _ _ _
   | exact tree_book_up.mono _ _ _ _
   | exact tree_open.mono _ _ _
   | exact LeO.none _
   | refine LeO.ite ?_ ?_
   | refine LeO.bind ?_ (fun _ => ?_)
theorem tree_To.mono : ∀ a0 a1 a2 k, LeO (tree_To.f k a0 a1 a2) (tree_To.f (k + 1) a0 a1 a2) := by
 intro a0 a1 a2 k
 have ih0 := tree_To.mono_l k
 unfold tree_To.f
 repeat' first
   | (with_reducible exact ih0 _ _ _ _ _ _)
   | (with_reducible exact tree_Path.mono _ _ _ _)
   | (with_reducible exact tree_book_up.mono _ _ _ _)
   | (with_reducible exact tree_open.mono _ _ _)
   | (with_reducible exact LeO.refl _)
   | (with_reducible exact LeO.none _)
   | (with_reducible refine LeO.ite ?_ ?_)
   | (with_reducible refine LeO.bind ?_ (fun _ => ?_))
   | exact ih0 _ _ _ _ _ _
   | exact tree_Path.mono _ _ _ _
   | exact tree_book_up.mono _ _ _ _
   | exact tree_open.mono _ _ _
   | exact LeO.none _
   | refine LeO.ite ?_ ?_
   | refine LeO.bind ?_ (fun _ => ?_)
def tree_To.T9 : Bool × List (List Nat × List Nat) := (true, [([], []), ([0], [0]), ([1], [1]), ([], []), ([3], [3]), ([4], [4]), ([], []), ([5, 6], [5, 6]), ([7], [7]), ([8], [8]), ([], []), ([2, 9, 0, 1, 2, 3, 4, 5, 6, 7, 8, 9, 10], [2, 9]), ([11, 0, 1, 2, 3, 4, 5, 6, 7, 8, 9, 10], [11]), ([12, 10, 0, 1, 2, 3, 4, 5, 6, 7, 8, 9, 10], [10, 12])])
def tree_To.B9 : List Nat := [0, 1, 3, 0, 8, 24, 0, 120, 248, 504, 0, 2047, 4095, 8191]
theorem tree_To.tab9 : rtab .any (opsOf Try.f53 9) = tree_To.T9 := by kernel_rfl
theorem tree_To.bits9 : waitsOk tree_To.T9.2 tree_To.B9 = true := by kernel_rfl
set_option maxHeartbeats 8000000 in
set_option maxRecDepth 100000 in
theorem tree_To.calls (k : Nat) (A0_0 : Option Addr) (c0_0 : Nat) (l0_0 : List (S69)) (a0_1 : Int) (a1 : Int) (r1 : List (S69)) (r2 : Int) (r3 : Int) (w : World) (hr0_0 : Kd.C k69 w A0_0 l0_0.length l0_0) (hc0_0 : l0_0.length ≤ c0_0) (h : tree_To.f k l0_0 a0_1 a1 = some (r1, r2, r3)) :
  Calls Try.prog 53 #[.agg #[.slice A0_0 l0_0.length c0_0, .int .i64 a0_1], .int .i64 a1] w fun e w' => ∃ v0_ : Value, e = .returned (.tuple #[.agg #[v0_, .int .i64 r2], .int .i64 r3]) ∧ Kd.R k69 69 w' w.heap.size (fun _ => True) v0_ r1 ∧ Below w.heap.size w w' := by
 have hu46 := Try.underlying46
 have hu102 := Try.underlying102
 have hfd104_0 := fun (w : World) (c0 c1 c2 : Value) => (by kernel_rfl : (Instr.field 104 (.agg #[c0, c1, c2]) 0).run Try.prog w = .ok (.agg #[c0, c1]) w)
 have HR0_0 := Aside0.mk hr0_0
 have HC0_0 := Aside0.mk hc0_0
 clear hr0_0 hc0_0
 have HB := Aside0.mk (Below.refl w.heap.size w)
 have H : ((tree_Path.f k l0_0 a0_1 a1).bind fun bt297 => (if bt297.2.2 = 0 then ((tree_open.f k l0_0 a0_1).bind fun bt304 => ((tree_book_copy.f bt304.1 bt304.2.1).bind fun bt309 => ((tree_book_up.f k bt309.1 bt309.2 a1).bind fun t314 => (tree_To.l0 k a1 t314 (t314.length : Int) 0 bt309.1 bt309.2)))) else (some (([] : List (S69)), 0, bt297.2.2)))) = some (r1, r2, r3) := h
 clear h
 replace H := Option.bind_eq_some_iff.mp H
 obtain ⟨⟨t297, t300, t303⟩, A30, H⟩ := H
 replace H : (if t303 = 0 then ((tree_open.f k l0_0 a0_1).bind fun bt304 => ((tree_book_copy.f bt304.1 bt304.2.1).bind fun bt309 => ((tree_book_up.f k bt309.1 bt309.2 a1).bind fun t314 => (tree_To.l0 k a1 t314 (t314.length : Int) 0 bt309.1 bt309.2)))) else (some (([] : List (S69)), 0, t303))) = some (r1, r2, r3) := H
 have A3 := Aside0.mk A30
 clear A30
 by_cases c4 : t303 = 0
 ·rw [if_pos c4] at H
  have c4b0 : (t303 == 0) = true := beq_iff_eq.mpr c4
  have c4b1 : (t303 != 0) = false := bne_eq_false_iff_eq.mpr c4
  clear c4
  replace H := Option.bind_eq_some_iff.mp H
  obtain ⟨⟨t304, t307, t308⟩, A50, H⟩ := H
  replace H : ((tree_book_copy.f t304 t307).bind fun bt309 => ((tree_book_up.f k bt309.1 bt309.2 a1).bind fun t314 => (tree_To.l0 k a1 t314 (t314.length : Int) 0 bt309.1 bt309.2))) = some (r1, r2, r3) := H
  have A5 := Aside0.mk A50
  clear A50
  replace H := Option.bind_eq_some_iff.mp H
  obtain ⟨⟨t309, t312⟩, A60, H⟩ := H
  replace H : ((tree_book_up.f k t309 t312 a1).bind fun t314 => (tree_To.l0 k a1 t314 (t314.length : Int) 0 t309 t312)) = some (r1, r2, r3) := H
  have A6 := Aside0.mk A60
  clear A60
  replace H := Option.bind_eq_some_iff.mp H
  obtain ⟨t314, A70, H⟩ := H
  replace H : (tree_To.l0 k a1 t314 (t314.length : Int) 0 t309 t312) = some (r1, r2, r3) := H
  have A7 := Aside0.mk A70
  clear A70
  have H' := Aside0.mk H
  clear H
  go_enter Try.func53, Try.ntmps53
  go_wp2_with (first | ((with_reducible refine gate_dst (N := 2) rfl ?_); refine be_ (N := 2) (cs := #[.slice A0_0 l0_0.length c0_0, .int .i64 a0_1]) (t := 46) (h := ?_); intro gb295 hg w8 hbox hb; have BK295 := Aside0.mk (hbox); have GW295 := gw_ HB hg; have GE295 := gw_ HB hg; replace HB := bs_ HB hb; clear hb hbox hg) | ((with_reducible refine gate_dst (N := 4) rfl ?_); refine be_ (N := 4) (cs := #[.slice none 0 0, .int .i64 0]) (t := 46) (h := ?_); intro gb296 hg w9 hbox hb; have BK296 := Aside0.mk (hbox); have GW296 := gw_ HB hg; have GE296 := gw_ HB hg; have NB295_296 := ne_ BK295 hg; have NB296_295 := en_ BK295 hg; replace BK295 := bb_ BK295 hb; replace HB := bs_ HB hb; clear hb hbox hg; have hnb10 := NB295_296.out; have hnc10 := NB296_295.out; obtain ⟨hcz11_0, hcz11_1, hfz11_0, hfz11_1⟩ := bc2_ BK295) | ((with_reducible refine gate_callee (f := 51) rfl ?_); refine ge_ (some 15) rfl rfl Try.func51 (by kernel_rfl) rfl #[.agg #[.slice A0_0 l0_0.length c0_0, .int .i64 a0_1], .int .i64 a1] rfl (h := ?_); (with_reducible refine (tree_Path.calls k _ _ l0_0 a0_1 a1 t297 t300 t303 _ ?side1 ?side2 A3.out).mono ?_); (case side1 => exact cw_ (Kd.C_below HR0_0.out HB.out)); (case side2 => exact HC0_0.out); rintro e w12 ⟨v298, v301, rfl, ho0, ho1, hb⟩; refine ⟨_, rfl, ?_⟩; have HO299 := Aside0.mk (Kd.R_lower ho0 (below_size (hb_ HB))); have HO302 := Aside0.mk (Kd.R_lower ho1 (below_size (hb_ HB))); replace BK295 := bb_ BK295 hb; replace BK296 := bb_ BK296 hb; replace HB := bs_ HB hb; (try clear hb); (try clear hb2); (try clear hk); (try clear hi); (try clear ho0); (try clear ho1); obtain ⟨hcz13_0, hcz13_1, hfz13_0, hfz13_1⟩ := bc2_ BK295) | ((with_reducible refine gate_callee (f := 79) rfl ?_); refine ge_ (some 24) rfl rfl Try.func79 (by kernel_rfl) rfl #[.agg #[.slice A0_0 l0_0.length c0_0, .int .i64 a0_1]] rfl (h := ?_); (with_reducible refine (tree_open.calls k (fun k_ => k_ < w.heap.size) _ _ l0_0 a0_1 t304 t307 t308 _ ?side1 A5.out).mono ?_); (case side1 => exact Kd.V_mk HC0_0.out (Kd.F_below (Kd.C_F k69_heap HR0_0.out) (hb_ HB))); rintro e w14 ⟨v305, rfl, ho0, hb⟩; refine ⟨_, rfl, ?_⟩; have HO306 := Aside0.mk (Kd.V_lower (Kd.V_mono (ok' := fun k_ => some k_ ≠ (v298 : Value).ownBlock ∧ some k_ ≠ (v301 : Value).ownBlock ∧ k_ ≠ gb295 ∧ k_ ≠ gb296) ho0 (fun k_ hk_ => ⟨Or.elim hk_ (fun hs_ => fun e_ => Nat.not_le.2 hs_ (Kd.R_base HO299.out k_ e_.symm)) (fun hn_ => (Kd.fresh' (Kd.R_lt (rw_ HO299.out)) k_ hn_)), Or.elim hk_ (fun hs_ => fun e_ => Nat.not_le.2 hs_ (Kd.R_base HO302.out k_ e_.symm)) (fun hn_ => (Kd.fresh' (Kd.R_lt (rw_ HO302.out)) k_ hn_)), Or.elim hk_ (fun hs_ => fun e_ => Nat.not_le.2 hs_ (by rw [e_]; exact GW295.out)) (fun hn_ => (Kd.freshB (g := gb295) (o := .cells #[.slice A0_0 l0_0.length c0_0, .int .i64 a0_1] 46 (0, 0)) (bw_ BK295.out) k_ hn_)), Or.elim hk_ (fun hs_ => fun e_ => Nat.not_le.2 hs_ (by rw [e_]; exact GW296.out)) (fun hn_ => (Kd.freshB (g := gb296) (o := .cells #[.slice none 0 0, .int .i64 0] 46 (0, 0)) (bw_ BK296.out) k_ hn_))⟩)) (below_size (hb_ HB))); replace HO299 := Aside0.mk (Kd.R_below (rw_ HO299.out) hb); replace HO302 := Aside0.mk (Kd.R_below (rw_ HO302.out) hb); replace BK295 := bb_ BK295 hb; replace BK296 := bb_ BK296 hb; replace HB := bs_ HB hb; (try clear hb); (try clear hb2); (try clear hk); (try clear hi); (try clear ho0); obtain ⟨Ao15, co15, eo15⟩ := Kd.V_slice HO306.out; subst eo15) | ((with_reducible refine gate_callee (f := 80) rfl ?_); refine ge_ (some 26) rfl rfl Try.func80 (by kernel_rfl) rfl #[.agg #[.slice Ao15 t304.length co15, .int .i64 t307]] rfl (h := ?_); (with_reducible refine (tree_book_copy.calls _ _ t304 t307 t309 t312 _ ?side1 ?side2 A6.out).mono ?_); (case side1 => repeat (first | exact (Kd.V_reads' HO306.out).2.2 | (with_reducible refine Kd.C_alloc ?_ _) | (with_reducible refine Kd.C_drewN ?_ _) | (with_reducible refine Kd.C_drew ?_))); (case side2 => exact (Kd.V_reads' HO306.out).2.1); rintro e w16 ⟨v310, rfl, ho0, hb⟩; refine ⟨_, rfl, ?_⟩; have HO311 := Aside0.mk (Kd.R_lower ho0 (below_size (hb_ HB))); replace HO299 := Aside0.mk (Kd.R_below (rw_ HO299.out) hb); replace HO302 := Aside0.mk (Kd.R_below (rw_ HO302.out) hb); replace HO306 := Aside0.mk (Kd.V_elder' (vw_ HO306.out) (Kd.R_base ho0) hb); replace BK295 := bb_ BK295 hb; replace BK296 := bb_ BK296 hb; replace HB := bs_ HB hb; (try clear hb); (try clear hb2); (try clear hk); (try clear hi); (try clear ho0)) | ((with_reducible refine gate_dst (N := 9) rfl ?_); refine be_ (N := 9) (cs := #[.slice none 0 0, .int .i64 0]) (t := 102) (h := ?_); intro gb313 hg w17 hbox hb; have BK313 := Aside0.mk (hbox); have GW313 := gw_ HB hg; have GE313 := gw_ HB hg; have NB295_313 := ne_ BK295 hg; have NB313_295 := en_ BK295 hg; have NB296_313 := ne_ BK296 hg; have NB313_296 := en_ BK296 hg; replace HO299 := Aside0.mk (Kd.R_below (rw_ HO299.out) hb); replace HO302 := Aside0.mk (Kd.R_below (rw_ HO302.out) hb); replace HO306 := Aside0.mk (Kd.V_below (Kd.V_elderB (vw_ HO306.out) gb313 (Nat.le_of_eq hg.symm)) hb); replace HO311 := Aside0.mk (Kd.R_below (rw_ HO311.out) hb); replace BK295 := bb_ BK295 hb; replace BK296 := bb_ BK296 hb; replace HB := bs_ HB hb; clear hb hbox hg; obtain ⟨Ao18, co18, eo18⟩ := Kd.R_slice HO311.out; subst eo18; have hnb19 := NB313_295.out; have hnc19 := NB295_313.out; have hnb20 := NB313_296.out; have hnc20 := NB296_313.out; obtain ⟨hcz21_0, hcz21_1, hfz21_0, hfz21_1⟩ := bc2_ BK313) | ((with_reducible refine gate_callee (f := 87) rfl ?_); refine ge_ (some 29) rfl rfl Try.func87 (by kernel_rfl) rfl #[.agg #[.slice Ao18 t309.length co18, .int .i64 t312], .int .i64 a1] rfl (h := ?_); (with_reducible refine (tree_book_up.calls k _ _ t309 t312 a1 t314 _ ?side1 ?side2 A7.out).mono ?_); (case side1 => refine (Kd.R_reads' (e := 69) (base := w.heap.size) (ok := fun k_ => True) (n := t309.length) (c := co18) ?_).2.2; exact (by (with_reducible repeat (first | apply Kd.R_alloc | apply Kd.R_drewN | apply Kd.R_drew)); exact (Kd.R_mono (rf_ (Kd.R_types HO311.out BK313.out (by decide)) (fun _ hk => hk.2)) (fun _ h_ => h_.1)))); (case side2 => exact (Kd.R_reads' HO311.out).2.1); rintro e w22 ⟨v315, rfl, ho0, hb⟩; refine ⟨_, rfl, ?_⟩; have HO316 := Aside0.mk (Kd.R_lower (Kd.R_new' (Kd.R_new' ho0 (Kd.R_lt (by (with_reducible repeat (first | apply Kd.R_alloc | apply Kd.R_drewN | apply Kd.R_drew)); exact (Kd.R_mono (rf_ (Kd.R_types HO299.out BK313.out (by decide)) (fun _ hk => hk.2)) (fun _ h_ => h_.1))))) (Kd.R_lt (by (with_reducible repeat (first | apply Kd.R_alloc | apply Kd.R_drewN | apply Kd.R_drew)); exact (Kd.R_mono (rf_ (Kd.R_types HO302.out BK313.out (by decide)) (fun _ hk => hk.2)) (fun _ h_ => h_.1))))) (below_size (hb_ HB))); replace HO299 := Aside0.mk (Kd.R_elder' (by (with_reducible repeat (first | apply Kd.R_alloc | apply Kd.R_drewN | apply Kd.R_drew)); exact (Kd.R_mono (rf_ (Kd.R_types HO299.out BK313.out (by decide)) (fun _ hk => hk.2)) (fun _ h_ => h_.1))) (Kd.R_base ho0) hb); replace HO302 := Aside0.mk (Kd.R_elder' (by (with_reducible repeat (first | apply Kd.R_alloc | apply Kd.R_drewN | apply Kd.R_drew)); exact (Kd.R_mono (rf_ (Kd.R_types HO302.out BK313.out (by decide)) (fun _ hk => hk.2)) (fun _ h_ => h_.1))) (Kd.R_base ho0) hb); replace HO306 := Aside0.mk (Kd.V_elder' (by (with_reducible repeat (first | apply Kd.V_alloc | apply Kd.V_drewN | apply Kd.V_drew)); exact (Kd.V_mono (vf_ (Kd.V_mono HO306.out (fun k_ hk => (⟨hk, hk.2⟩ : _ ∧ k_ ≠ gb313))) (fun _ hk => hk.2)) (fun _ h_ => h_.1))) (Kd.R_base ho0) hb); replace HO311 := Aside0.mk (Kd.R_below (by (with_reducible repeat (first | apply Kd.R_alloc | apply Kd.R_drewN | apply Kd.R_drew)); exact (Kd.R_mono (rf_ (Kd.R_types HO311.out BK313.out (by decide)) (fun _ hk => hk.2)) (fun _ h_ => h_.1))) hb); replace BK295 := Aside0.mk (blk_below (g := gb295) (o := .cells #[.slice A0_0 l0_0.length c0_0, .int .i64 a0_1] 46 (0, 0)) (bp_ BK295.out) hb); replace BK296 := Aside0.mk (blk_below (g := gb296) (o := .cells #[.slice none 0 0, .int .i64 0] 46 (0, 0)) (bp_ BK296.out) hb); replace HB := bs_ HB hb; replace BK313 := Aside0.mk (blk_below (g := gb313) (o := .cells #[.slice Ao18 t309.length co18, .int .i64 t312] 102 (0, 0)) (bp_ BK313.out) hb); (try clear hb); (try clear hb2); (try clear hk); (try clear hi); (try clear ho0); obtain ⟨Ao23, co23, eo23⟩ := Kd.R_slice HO316.out; subst eo23))
  go_loopg [31] k (fun kq v31 w' => ∃ (x31_1 : Int) (x314000_1 : List (S69)) (u314000 : Value), v31 = .int .i64 x31_1 ∧ Aside0 (tree_To.l0 kq a1 t314 (t314.length : Int) x31_1 x314000_1 t312 = some (r1, r2, r3)) ∧ Aside0 (kq ≤ k) ∧ Aside0 (Kd.R (Kd.int .i64) 3 w' w.heap.size (fun _ => True) (.slice Ao23 t314.length co23) t314) ∧ Aside0 (Kd.R k69 69 w' w.heap.size (fun _ => True) u314000 x314000_1) ∧ Aside0 (w'.heap[gb295]? = some (.cells #[(.slice A0_0 l0_0.length c0_0), .int .i64 a0_1] 46 (0, 0))) ∧ Aside0 (w'.heap[gb296]? = some (.cells #[(.slice none 0 0), .int .i64 0] 46 (0, 0))) ∧ Aside0 (w'.heap[gb313]? = some (.cells #[u314000, .int .i64 t312] 102 (0, 0))) ∧ Aside0 (Below w.heap.size w w'))
  case atStart => exact ⟨(0), (t309), (.slice Ao18 t309.length co18), es_, H', ⟨Nat.le_refl _⟩, ⟨by (with_reducible repeat (first | apply Kd.R_alloc | apply Kd.R_drewN | apply Kd.R_drew)); exact Kd.R_mono HO316.out (fun _ hk => trivial)⟩, ⟨rw_ HO311.out⟩, ⟨bw_ BK295.out⟩, ⟨bw_ BK296.out⟩, ⟨bw_ BK313.out⟩, ⟨hb_ HB⟩⟩
  case round =>
   clear H'
   try clear c4
   try clear c4b0
   try clear c4b1
   try clear hcz11_0
   try clear hcz11_1
   try clear hcz13_0
   try clear hcz13_1
   try clear hcz21_0
   try clear hcz21_1
   try clear hfz11_0
   try clear hfz11_1
   try clear hfz13_0
   try clear hfz13_1
   try clear hfz21_0
   try clear hfz21_1
   obtain ⟨x31_1, x314000_1, u314000, rfl, HA, HK1, HO_29, HO_314000, BK295, BK296, BK313, HB⟩ := hrel
   cases gk with
   | zero => exact absurd HA.out (by simp [tree_To.l0])
   | succ k1 =>
    have H := HA.out
    clear HA
    simp only [tree_To.l0] at H
    by_cases c24 : x31_1 < (t314.length : Int)
    ·rw [if_pos c24] at H
     have c24b0 : decide (x31_1 < (t314.length : Int)) = true := decide_eq_true c24
     clear c24
     by_cases c25 : 0 ≤ x31_1
     ·rw [if_pos c25] at H
      have c25b0 : decide (0 ≤ x31_1) = true := decide_eq_true c25
      clear c25
      by_cases c26 : x31_1 < (t314.length : Int)
      ·rw [if_pos c26] at H
       have c26b0 : decide (x31_1 < (t314.length : Int)) = true := decide_eq_true c26
       clear c26
       by_cases c27 : (rd t314 x31_1) > 0
       ·rw [if_pos c27] at H
        have c27b0 : decide (0 < (rd t314 x31_1)) = true := decide_eq_true c27
        clear c27
        by_cases c28 : 0 ≤ (rd t314 x31_1)
        ·rw [if_pos c28] at H
         have c28b0 : decide (0 ≤ (rd t314 x31_1)) = true := decide_eq_true c28
         clear c28
         by_cases c29 : (rd t314 x31_1) < (x314000_1.length : Int)
         ·rw [if_pos c29] at H
          have c29b0 : decide ((rd t314 x31_1) < (x314000_1.length : Int)) = true := decide_eq_true c29
          clear c29
          by_cases c30 : 0 ≤ ((rd_T69 x314000_1 (rd t314 x31_1)).f0)
          ·rw [if_pos c30] at H
           have c30b0 : decide (0 ≤ ((rd_T69 x314000_1 (rd t314 x31_1)).f0)) = true := decide_eq_true c30
           clear c30
           by_cases c31 : ((rd_T69 x314000_1 (rd t314 x31_1)).f0) < (x314000_1.length : Int)
           ·rw [if_pos c31] at H
            have c31b0 : decide (((rd_T69 x314000_1 (rd t314 x31_1)).f0) < (x314000_1.length : Int)) = true := decide_eq_true c31
            clear c31
            obtain ⟨y319, hy319⟩ : ∃ y_ : List (S69), y_ = (x314000_1.set (((rd_T69 x314000_1 (rd t314 x31_1)).f0) : Int).toNat (⟨(rd_T69 x314000_1 ((rd_T69 x314000_1 (rd t314 x31_1)).f0)).f0, rd t314 x31_1, (rd_T69 x314000_1 ((rd_T69 x314000_1 (rd t314 x31_1)).f0)).f2, (rd_T69 x314000_1 ((rd_T69 x314000_1 (rd t314 x31_1)).f0)).f3, (⟨(rd_T69 x314000_1 ((rd_T69 x314000_1 (rd t314 x31_1)).f0)).f4.f0, (rd_T69 x314000_1 ((rd_T69 x314000_1 (rd t314 x31_1)).f0)).f4.f1, (rd_T69 x314000_1 ((rd_T69 x314000_1 (rd t314 x31_1)).f0)).f4.f2⟩ : S24)⟩ : S69)) := ⟨_, rfl⟩
            replace H : (tree_To.l0 k1 a1 t314 (t314.length : Int) (wrap64 (x31_1 + 1)) y319 t312) = some (r1, r2, r3) := th_ H hy319
            have Ny319 := Aside0.mk hy319
            clear hy319
            have H' := Aside0.mk H
            clear H
            have p317 : 0 ≤ (x31_1 : Int) := of_decide_eq_true as_
            have q317 : x31_1 < (t314.length : Int) := of_decide_eq_true as_
            obtain ⟨ad317, e317, hx317_0⟩ := Kd.at_int (Kd.R_reads' HO_29.out).2.2 x31_1 p317 q317
            cases e317
            replace p317 := eq_true p317
            replace q317 := eq_true q317
            try go_wp2
            have n0_ := Aside0.mk (Kd.R_drew HO_29.out)
            have n1_ := Aside0.mk (Kd.R_drew HO_314000.out)
            have n2_ := Aside0.mk (blk_drew BK295.out)
            have n3_ := Aside0.mk (blk_drew BK296.out)
            have n4_ := Aside0.mk (blk_drew BK313.out)
            have n5_ := Aside0.mk (below_drew1 HB.out)
            clear HO_29
            clear HO_314000
            clear BK295
            clear BK296
            clear BK313
            clear HB
            have HO_29 := n0_
            have HO_314000 := n1_
            have BK295 := n2_
            have BK296 := n3_
            have BK313 := n4_
            have HB := n5_
            clear n0_ n1_ n2_ n3_ n4_ n5_
            obtain ⟨Ao34, co34, eo34⟩ := Kd.R_slice HO_314000.out
            (first | subst eo34 | (injection eo34 with f1_ f2_ f3_; have f4_ := f1_.symm; have f5_ := f3_.symm; clear f1_ f2_ f3_; subst f4_; subst f5_))
            have p318 : 0 ≤ ((rd t314 x31_1) : Int) := of_decide_eq_true as_
            have q318 : (rd t314 x31_1) < (x314000_1.length : Int) := of_decide_eq_true as_
            obtain ⟨ad318, e318, hx318_0, hx318_1, hx318_2, hx318_3, hx318_4, hx318_5, hx318_6⟩ := at_T69 (Kd.R_reads' HO_314000.out).2.2 (rd t314 x31_1) p318 q318
            cases e318
            replace p318 := eq_true p318
            replace q318 := eq_true q318
            have p32 : 0 ≤ (((rd_T69 x314000_1 (rd t314 x31_1)).f0) : Int) := of_decide_eq_true as_
            have q32 : (((rd_T69 x314000_1 (rd t314 x31_1)).f0) : Int) < ((x314000_1.length : Int) : Int) := of_decide_eq_true as_
            obtain ⟨go32, co32, eo32, gb32, gl32, cl32, HG32⟩ := Kd.R_form HO_314000.out (by omega)
            (first | cases eo32 | (injection eo32 with ea_ en_ ec_; (first | subst ea_ | (injection ea_ with ea_; subst ea_)); subst ec_; clear en_))
            have GB32 := Aside0.mk gb32
            have GG32 := Aside0.mk HG32
            clear gb32 gl32 HG32
            (first | simp only [add_plain] at hx318_0 | skip)
            (first | simp only [add_plain] at hx318_1 | skip)
            (first | simp only [add_plain] at hx318_2 | skip)
            (first | simp only [add_plain] at hx318_3 | skip)
            (first | simp only [add_plain] at hx318_4 | skip)
            (first | simp only [add_plain] at hx318_5 | skip)
            (first | simp only [add_plain] at hx318_6 | skip)
            obtain ⟨ce32, hcl32, hM32, hcc32, hfr32⟩ := Kd.R_elem HO_314000.out z69 (((rd_T69 x314000_1 (rd t314 x31_1)).f0) : Int) p32 q32
            obtain rfl := k69_openM hM32
            have hx32_0 : World.cell? _ ⟨go32, (((rd_T69 x314000_1 (rd t314 x31_1)).f0) : Int).toNat * 7, none⟩ = some (.int .i64 ((rd_T69 x314000_1 ((rd_T69 x314000_1 (rd t314 x31_1)).f0)).f0)) := hcc32 0 _ rfl
            have hx32_1 : World.cell? _ ⟨go32, (((rd_T69 x314000_1 (rd t314 x31_1)).f0) : Int).toNat * 7 + 1, none⟩ = some (.int .i64 ((rd_T69 x314000_1 ((rd_T69 x314000_1 (rd t314 x31_1)).f0)).f1)) := hcc32 1 _ rfl
            have hx32_2 : World.cell? _ ⟨go32, (((rd_T69 x314000_1 (rd t314 x31_1)).f0) : Int).toNat * 7 + 2, none⟩ = some (.int .i64 ((rd_T69 x314000_1 ((rd_T69 x314000_1 (rd t314 x31_1)).f0)).f2)) := hcc32 2 _ rfl
            have hx32_3 : World.cell? _ ⟨go32, (((rd_T69 x314000_1 (rd t314 x31_1)).f0) : Int).toNat * 7 + 3, none⟩ = some (.int .i64 ((rd_T69 x314000_1 ((rd_T69 x314000_1 (rd t314 x31_1)).f0)).f3)) := hcc32 3 _ rfl
            have hx32_4 : World.cell? _ ⟨go32, (((rd_T69 x314000_1 (rd t314 x31_1)).f0) : Int).toNat * 7 + 4, none⟩ = some (.int .i64 ((rd_T69 x314000_1 ((rd_T69 x314000_1 (rd t314 x31_1)).f0)).f4.f0)) := hcc32 4 _ rfl
            have hx32_5 : World.cell? _ ⟨go32, (((rd_T69 x314000_1 (rd t314 x31_1)).f0) : Int).toNat * 7 + 5, none⟩ = some (.string ((rd_T69 x314000_1 ((rd_T69 x314000_1 (rd t314 x31_1)).f0)).f4.f1)) := hcc32 5 _ rfl
            have hx32_6 : World.cell? _ ⟨go32, (((rd_T69 x314000_1 (rd t314 x31_1)).f0) : Int).toNat * 7 + 6, none⟩ = some (.string ((rd_T69 x314000_1 ((rd_T69 x314000_1 (rd t314 x31_1)).f0)).f4.f2)) := hcc32 6 _ rfl
            have hf32_0 : World.frozen? _ ⟨go32, (((rd_T69 x314000_1 (rd t314 x31_1)).f0) : Int).toNat * 7, none⟩ = false := hfr32 0
            have hf32_1 : World.frozen? _ ⟨go32, (((rd_T69 x314000_1 (rd t314 x31_1)).f0) : Int).toNat * 7 + 1, none⟩ = false := hfr32 1
            have hf32_2 : World.frozen? _ ⟨go32, (((rd_T69 x314000_1 (rd t314 x31_1)).f0) : Int).toNat * 7 + 2, none⟩ = false := hfr32 2
            have hf32_3 : World.frozen? _ ⟨go32, (((rd_T69 x314000_1 (rd t314 x31_1)).f0) : Int).toNat * 7 + 3, none⟩ = false := hfr32 3
            have hf32_4 : World.frozen? _ ⟨go32, (((rd_T69 x314000_1 (rd t314 x31_1)).f0) : Int).toNat * 7 + 4, none⟩ = false := hfr32 4
            have hf32_5 : World.frozen? _ ⟨go32, (((rd_T69 x314000_1 (rd t314 x31_1)).f0) : Int).toNat * 7 + 5, none⟩ = false := hfr32 5
            have hf32_6 : World.frozen? _ ⟨go32, (((rd_T69 x314000_1 (rd t314 x31_1)).f0) : Int).toNat * 7 + 6, none⟩ = false := hfr32 6
            clear hcl32 hcc32 hfr32 hM32
            replace p32 := eq_true p32
            replace q32 := eq_true q32
            obtain ⟨ce35, hcl35, hM35, hcc35, hfr35⟩ := Kd.R_elem HO_314000.out z69 (((rd_T69 x314000_1 (rd t314 x31_1)).f0) : Int) (of_decide_eq_true as_) (by have h_ : (((rd_T69 x314000_1 (rd t314 x31_1)).f0) : Int) < ((x314000_1.length : Int) : Int) := of_decide_eq_true as_; first | exact h_ | (have e_ := (Kd.R_reads' HO_314000.out).1; omega) | simpa using h_)
            obtain rfl := k69_openM hM35
            have HP35 := (Kd.R_seg HO_314000.out (((rd_T69 x314000_1 (rd t314 x31_1)).f0) : Int) (of_decide_eq_true as_) (by have h_ : (((rd_T69 x314000_1 (rd t314 x31_1)).f0) : Int) < ((x314000_1.length : Int) : Int) := of_decide_eq_true as_; first | exact h_ | (have e_ := (Kd.R_reads' HO_314000.out).1; omega) | simpa using h_) (seg := [.int .i64 (rd t314 x31_1)]) (j := 1) hcl35 hcc35 (show 2 ≤ 7 from by decide) (x' := (⟨(rd_T69 x314000_1 ((rd_T69 x314000_1 (rd t314 x31_1)).f0)).f0, rd t314 x31_1, (rd_T69 x314000_1 ((rd_T69 x314000_1 (rd t314 x31_1)).f0)).f2, (rd_T69 x314000_1 ((rd_T69 x314000_1 (rd t314 x31_1)).f0)).f3, (⟨(rd_T69 x314000_1 ((rd_T69 x314000_1 (rd t314 x31_1)).f0)).f4.f0, (rd_T69 x314000_1 ((rd_T69 x314000_1 (rd t314 x31_1)).f0)).f4.f1, (rd_T69 x314000_1 ((rd_T69 x314000_1 (rd t314 x31_1)).f0)).f4.f2⟩ : S24)⟩ : S69)) (k69_mkM _ _ _ (⟨(rd_T69 x314000_1 ((rd_T69 x314000_1 (rd t314 x31_1)).f0)).f0, rd t314 x31_1, (rd_T69 x314000_1 ((rd_T69 x314000_1 (rd t314 x31_1)).f0)).f2, (rd_T69 x314000_1 ((rd_T69 x314000_1 (rd t314 x31_1)).f0)).f3, (⟨(rd_T69 x314000_1 ((rd_T69 x314000_1 (rd t314 x31_1)).f0)).f4.f0, (rd_T69 x314000_1 ((rd_T69 x314000_1 (rd t314 x31_1)).f0)).f4.f1, (rd_T69 x314000_1 ((rd_T69 x314000_1 (rd t314 x31_1)).f0)).f4.f2⟩ : S24)⟩ : S69) ) (fun _ hk => hk)).1
            rw [← Ny319.out] at HP35
            have HQ35 := Aside0.mk HP35
            clear hcl35 hcc35 hfr35 hM35 HP35
            refine start_ (n := 14) (S := fun w' => w'.cell? ⟨gb313, 0, none⟩ = some (.slice (some ⟨go32, 0, none⟩) x314000_1.length co34) ∧ w'.cell? ⟨gb313, 1, none⟩ = some (.int .i64 t312) ∧ w'.cell? (⟨go32, (((rd t314 x31_1)).toNat * 7), none⟩ : Addr) = some (.int .i64 ((rd_T69 x314000_1 (rd t314 x31_1)).f0)) ∧ w'.cell? ⟨go32, ((((rd t314 x31_1)).toNat * 7)) + 1, none⟩ = some (.int .i64 ((rd_T69 x314000_1 (rd t314 x31_1)).f1)) ∧ w'.cell? ⟨go32, ((((rd t314 x31_1)).toNat * 7)) + 2, none⟩ = some (.int .i64 ((rd_T69 x314000_1 (rd t314 x31_1)).f2)) ∧ w'.cell? ⟨go32, ((((rd t314 x31_1)).toNat * 7)) + 3, none⟩ = some (.int .i64 ((rd_T69 x314000_1 (rd t314 x31_1)).f3)) ∧ w'.cell? ⟨go32, ((((rd t314 x31_1)).toNat * 7)) + 4, none⟩ = some (.int .i64 ((rd_T69 x314000_1 (rd t314 x31_1)).f4.f0)) ∧ w'.cell? ⟨go32, ((((rd t314 x31_1)).toNat * 7)) + 5, none⟩ = some (.string ((rd_T69 x314000_1 (rd t314 x31_1)).f4.f1)) ∧ w'.cell? ⟨go32, ((((rd t314 x31_1)).toNat * 7)) + 6, none⟩ = some (.string ((rd_T69 x314000_1 (rd t314 x31_1)).f4.f2))) (ds := [13]) #[false, false, false, false, false, false, false, false, false, false, false, false, false, false] (by kernel_rfl) rfl rfl ⟨(blk_cell BK313.out 0).trans rfl, (blk_cell BK313.out 1).trans rfl, hx318_0, hx318_1, hx318_2, hx318_3, hx318_4, hx318_5, hx318_6⟩ (fun hHeld => ?_); refine with_tabW tree_To.tab9 tree_To.bits9 (fun HT_ HW_ => ?_)
            generalize wr.drew = w33 at HO_29 HO_314000 BK295 BK296 BK313 HB GG32 HQ35 hf32_0 hf32_1 hf32_2 hf32_3 hf32_4 hf32_5 hf32_6 hx318_0 hx318_1 hx318_2 hx318_3 hx318_4 hx318_5 hx318_6 hx32_0 hx32_1 hx32_2 hx32_3 hx32_4 hx32_5 hx32_6 hHeld ⊢
            refine pp_ (i := 0) (N := some 37) #[true, false, false, false, false, false, false, false, false, false, false, false, false, false] rfl rfl (any_of HT_.out (by kernel_rfl)) (h := ?_)
            refine pp_ (i := 1) (N := some 38) #[true, true, false, false, false, false, false, false, false, false, false, false, false, false] rfl rfl (any_of HT_.out (by kernel_rfl)) (h := ?_)
            refine pp_ (i := 3) (N := some 40) #[true, true, false, true, false, false, false, false, false, false, false, false, false, false] rfl rfl (any_of HT_.out (by kernel_rfl)) (h := ?_)
            refine pp_ (i := 4) (N := some 41) #[true, true, false, true, true, false, false, false, false, false, false, false, false, false] rfl rfl (any_of HT_.out (by kernel_rfl)) (h := ?_)
            refine pp_ (i := 6) (N := some 43) #[true, true, false, true, true, false, true, false, false, false, false, false, false, false] rfl rfl (any_of HT_.out (by kernel_rfl)) (h := ?_)
            refine pp_ (i := 10) (N := some 47) #[true, true, false, true, true, false, true, false, false, false, true, false, false, false] rfl rfl (any_of HT_.out (by kernel_rfl)) (h := ?_)
            refine take_ (i := 2) (N := some 39) (v := ?_) (a' := ?_) #[true, true, true, true, true, false, true, false, false, false, true, false, false, false] rfl rfl (take_ofW HT_.out HW_.out (by kernel_rfl)) (fun _ _ _ h => h) (Or.inl ⟨by rfl, ?_⟩) hHeld ?_ ?_
            rotate_left
            ·rintro w' ⟨s0, s1, s2, s3, s4, s5, s6, s7, s8⟩
             go_simp
             with_reducible rfl
            rotate_left
            ·simp only [Act.put, List.setIfInBounds_toArray, List.set_cons_zero, List.set_cons_succ, i64_w, i32_w]
             rfl
            refine take_ (i := 5) (N := some 42) (v := ?_) (a' := ?_) #[true, true, true, true, true, true, true, false, false, false, true, false, false, false] rfl rfl (take_ofW HT_.out HW_.out (by kernel_rfl)) (fun _ _ _ h => h) (Or.inl ⟨by rfl, ?_⟩) hHeld ?_ ?_
            rotate_left
            ·rintro w' ⟨s0, s1, s2, s3, s4, s5, s6, s7, s8⟩
             go_simp
             with_reducible rfl
            rotate_left
            ·simp only [Act.put, List.setIfInBounds_toArray, List.set_cons_zero, List.set_cons_succ, i64_w, i32_w]
             rfl
            refine pp_ (i := 7) (N := some 44) #[true, true, true, true, true, true, true, true, false, false, true, false, false, false] rfl rfl (any_of HT_.out (by kernel_rfl)) (h := ?_)
            refine pp_ (i := 8) (N := some 45) #[true, true, true, true, true, true, true, true, true, false, true, false, false, false] rfl rfl (any_of HT_.out (by kernel_rfl)) (h := ?_)
            refine take_ (i := 9) (N := some 46) (v := ?_) (a' := ?_) #[true, true, true, true, true, true, true, true, true, true, true, false, false, false] rfl rfl (take_ofW HT_.out HW_.out (by kernel_rfl)) (fun _ _ _ h => h) (Or.inl ⟨by rfl, ?_⟩) hHeld ?_ ?_
            rotate_left
            ·rintro w' ⟨s0, s1, s2, s3, s4, s5, s6, s7, s8⟩
             go_simp
             with_reducible rfl
            rotate_left
            ·simp only [Act.put, List.setIfInBounds_toArray, List.set_cons_zero, List.set_cons_succ, i64_w, i32_w]
             rfl
            refine pp_ (i := 11) (N := some 48) #[true, true, true, true, true, true, true, true, true, true, true, true, false, false] rfl rfl (any_of HT_.out (by kernel_rfl)) (h := ?_)
            refine pp_ (i := 12) (N := some 49) #[true, true, true, true, true, true, true, true, true, true, true, true, true, false] rfl rfl (any_of HT_.out (by kernel_rfl)) (h := ?_)
            refine last_ (i := 13) (N := none) #[true, true, true, true, true, true, true, true, true, true, true, true, true, true] rfl rfl (one_of HT_.out (by kernel_rfl)) (by decide) (fun K hK => ?_)
            refine skip_ (w1 := ?_) (by rfl) rfl ?_ ?_
            rotate_left
            ·go_simp
             rfl
            refine hK.out _ _ ?_
            clear hK K
            refine done_ (done_of HT_.out (by kernel_rfl)) ?_
            try go_wp2
            go_roundg k1
            case measure => have := HK1.out; omega
            case rel => exact ⟨(wrap64 (x31_1 + 1)), (y319), (.slice (some ⟨go32, 0, none⟩) x314000_1.length co34), es_, H', ⟨by have := HK1.out; omega⟩, ⟨by (with_reducible repeat (first | apply Kd.R_alloc | apply Kd.R_drewN | apply Kd.R_drew)); exact Kd.R_mono (Kd.R_far (p := ⟨go32, (((rd_T69 x314000_1 (rd t314 x31_1)).f0) : Int).toNat * 7 + 1, none⟩) (Kd.R_types HO_29.out GG32.out (by decide)) (fun _ hk => hk.2) (.int .i64 (rd t314 x31_1))) (fun _ hk => trivial)⟩, ⟨rw_ HQ35.out⟩, ⟨by (with_reducible repeat (first | refine blk_drewN ?_ _ | refine blk_drew ?_ | refine blk_alloc ?_ _)); refine blk_far ?_ (by have h_ := Kd.R_ne HO_314000.out BK295.out (by decide); intro e_; exact h_ (by rw [e_]; rfl)) _; (with_reducible repeat (first | refine blk_drewN ?_ _ | refine blk_drew ?_ | refine blk_alloc ?_ _)); exact BK295.out⟩, ⟨by (with_reducible repeat (first | refine blk_drewN ?_ _ | refine blk_drew ?_ | refine blk_alloc ?_ _)); refine blk_far ?_ (by have h_ := Kd.R_ne HO_314000.out BK296.out (by decide); intro e_; exact h_ (by rw [e_]; rfl)) _; (with_reducible repeat (first | refine blk_drewN ?_ _ | refine blk_drew ?_ | refine blk_alloc ?_ _)); exact BK296.out⟩, ⟨by (with_reducible repeat (first | refine blk_drewN ?_ _ | refine blk_drew ?_ | refine blk_alloc ?_ _)); refine blk_far ?_ (by have h_ := Kd.R_ne HO_314000.out BK313.out (by decide); intro e_; exact h_ (by rw [e_]; rfl)) _; (with_reducible repeat (first | refine blk_drewN ?_ _ | refine blk_drew ?_ | refine blk_alloc ?_ _)); exact BK313.out⟩, ⟨by repeat (first | (with_reducible first | exact HB.out | apply below_alloc | apply pw_below_drewN | apply below_drew1 | refine below_set ?_ GB32.out | refine below_set ?_ GE295.out | refine below_set ?_ GE296.out | refine below_set ?_ GE313.out) | exact HB.out)⟩⟩
           ·rw [if_neg c31] at H
            exact absurd H (by simp)
          ·rw [if_neg c30] at H
           exact absurd H (by simp)
         ·rw [if_neg c29] at H
          exact absurd H (by simp)
        ·rw [if_neg c28] at H
         exact absurd H (by simp)
       ·rw [if_neg c27] at H
        have c27b0 : decide (0 < (rd t314 x31_1)) = false := decide_eq_false c27
        clear c27
        have H' := Aside0.mk H
        clear H
        have p317 : 0 ≤ (x31_1 : Int) := of_decide_eq_true as_
        have q317 : x31_1 < (t314.length : Int) := of_decide_eq_true as_
        obtain ⟨ad317, e317, hx317_0⟩ := Kd.at_int (Kd.R_reads' HO_29.out).2.2 x31_1 p317 q317
        cases e317
        replace p317 := eq_true p317
        replace q317 := eq_true q317
        go_wp2
        go_roundg k1
        case measure => have := HK1.out; omega
        case rel => exact ⟨(wrap64 (x31_1 + 1)), (x314000_1), (u314000), es_, H', ⟨by have := HK1.out; omega⟩, ⟨rw_ HO_29.out⟩, ⟨rw_ HO_314000.out⟩, ⟨bw_ BK295.out⟩, ⟨bw_ BK296.out⟩, ⟨bw_ BK313.out⟩, ⟨hb_ HB⟩⟩
      ·rw [if_neg c26] at H
       exact absurd H (by simp)
     ·rw [if_neg c25] at H
      exact absurd H (by simp)
    ·rw [if_neg c24] at H
     have c24b0 : decide (x31_1 < (t314.length : Int)) = false := decide_eq_false c24
     clear c24
     simp only [Option.some.injEq, Prod.mk.injEq] at H
     obtain ⟨rfl, rfl, rfl⟩ := H
     have hnb36 := NB313_295.out
     have hnc36 := NB295_313.out
     have hnb37 := NB313_296.out
     have hnc37 := NB296_313.out
     obtain ⟨hcz38_0, hcz38_1, hfz38_0, hfz38_1⟩ := bc2_ BK313
     obtain ⟨Ao39, co39, eo39⟩ := Kd.R_slice HO_314000.out
     subst eo39
     have hnb40 := NB296_295.out
     have hnc40 := NB295_296.out
     obtain ⟨hcz41_0, hcz41_1, hfz41_0, hfz41_1⟩ := bc2_ BK296
     go_wp2
     refine bodyPost_ret (results_ct rfl _ _ gb296 46 #[.slice Ao39 x314000_1.length co39, .int .i64 a1] (0, 0) _ rfl (bp_ BK296.out) Try.underlying46 rfl (by kernel_rfl)) rfl ?_
     exact ⟨_, er_, by (with_reducible repeat (first | apply Kd.R_alloc | apply Kd.R_drewN | apply Kd.R_drew)); exact Kd.R_mono (rf_ (Kd.R_far (p := ⟨gb313, 1, none⟩) (Kd.R_types (Kd.R_types HO_314000.out BK313.out (by decide)) BK296.out (by decide)) (fun _ hk => hk.1.2) (.int .i64 a1)) (fun _ hk => hk.2)) (fun _ hk => trivial), hb_ HB⟩
 ·rw [if_neg c4] at H
  have c4b0 : (t303 == 0) = false := beq_eq_false_iff_ne.mpr c4
  have c4b1 : (t303 != 0) = true := bne_iff_ne.mpr c4
  simp only [Option.some.injEq, Prod.mk.injEq] at H
  obtain ⟨rfl, rfl, rfl⟩ := H
  go_enter Try.func53, Try.ntmps53
  go_wp2_with (first | ((with_reducible refine gate_dst (N := 2) rfl ?_); refine be_ (N := 2) (cs := #[.slice A0_0 l0_0.length c0_0, .int .i64 a0_1]) (t := 46) (h := ?_); intro gb295 hg w42 hbox hb; have BK295 := Aside0.mk (hbox); have GW295 := gw_ HB hg; have GE295 := gw_ HB hg; replace HB := bs_ HB hb; clear hb hbox hg) | ((with_reducible refine gate_dst (N := 4) rfl ?_); refine be_ (N := 4) (cs := #[.slice none 0 0, .int .i64 0]) (t := 46) (h := ?_); intro gb296 hg w43 hbox hb; have BK296 := Aside0.mk (hbox); have GW296 := gw_ HB hg; have GE296 := gw_ HB hg; have NB295_296 := ne_ BK295 hg; have NB296_295 := en_ BK295 hg; replace BK295 := bb_ BK295 hb; replace HB := bs_ HB hb; clear hb hbox hg; have hnb44 := NB295_296.out; have hnc44 := NB296_295.out; obtain ⟨hcz45_0, hcz45_1, hfz45_0, hfz45_1⟩ := bc2_ BK295) | ((with_reducible refine gate_callee (f := 51) rfl ?_); refine ge_ (some 15) rfl rfl Try.func51 (by kernel_rfl) rfl #[.agg #[.slice A0_0 l0_0.length c0_0, .int .i64 a0_1], .int .i64 a1] rfl (h := ?_); (with_reducible refine (tree_Path.calls k _ _ l0_0 a0_1 a1 t297 t300 t303 _ ?side1 ?side2 A3.out).mono ?_); (case side1 => exact cw_ (Kd.C_below HR0_0.out HB.out)); (case side2 => exact HC0_0.out); rintro e w46 ⟨v298, v301, rfl, ho0, ho1, hb⟩; refine ⟨_, rfl, ?_⟩; have HO299 := Aside0.mk (Kd.R_lower ho0 (below_size (hb_ HB))); have HO302 := Aside0.mk (Kd.R_lower ho1 (below_size (hb_ HB))); replace BK295 := bb_ BK295 hb; replace BK296 := bb_ BK296 hb; replace HB := bs_ HB hb; (try clear hb); (try clear hb2); (try clear hk); (try clear hi); (try clear ho0); (try clear ho1); obtain ⟨hcz47_0, hcz47_1, hfz47_0, hfz47_1⟩ := bc2_ BK296))
  refine bodyPost_ret (results_ct rfl _ _ gb296 46 #[.slice none 0 0, .int .i64 0] (0, 0) _ rfl (bp_ BK296.out) Try.underlying46 rfl (by kernel_rfl)) rfl ?_
  exact ⟨_, er_, by first | exact Kd.R_nil _ _ _ _ _ | exact Kd.N_nil _ _ _ _ _ | exact Kd.V_nil _ _ _ _ _ | exact Kd.Q_nil _ _ _ _ _ | exact Kd.S_nil _ _ _ _ _, hb_ HB⟩

end Go.Proofs.Ytkiokimpblimcaa.PTreeBack
