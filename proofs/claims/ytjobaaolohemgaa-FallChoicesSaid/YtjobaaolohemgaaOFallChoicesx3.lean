/- Of the law calamus/calamuslaw32.FallChoices: each function as a plain Lean function, with a proof that the call comes to it; the row. By wip/tpl/own_print.py. Conditions: none but the row's own. -/
import Derived.Test.YtjobaaolohemgaaOFallChoicesx0
import Derived.Test.YtjobaaolohemgaaOFallChoicesx2
namespace Go.Proofs.Ytjobaaolohemgaa.PFallChoices
open Go.RowKit Go.Proofs.YtjobaaolohemgaaW.PrintWords Go.Proofs.YtjobaaolohemgaaW.PrintLast Go.Proofs.YtjobaaolohemgaaW.PrintMore
attribute [local go_sem] max2_int min2_int max_two min_two max_three min_three max_four min_four   -- for this text's walks alone
set_option linter.unusedVariables false
set_option linter.unusedSimpArgs false

/-! ### calamusref32_made: function 76 -/
def calamusref32_made.f (l0 : List Int) : Option (Int × List Int) := if 0 < (l0.length : Int) then (if 1 ≤ (l0.length : Int) then (some (rd l0 0, (l0.drop 1))) else (none)) else (none)
set_option maxHeartbeats 8000000 in
set_option maxRecDepth 100000 in
theorem calamusref32_made.calls (P0_ : Nat → Prop) (A0 : Option Addr) (c0 : Nat) (l0 : List Int) (r1 : Int) (r2 : List Int) (w : World) (hs0 : Kd.V (Kd.int .i64) 3 w w.heap.size (fun k_ => P0_ k_) (.slice A0 l0.length c0) l0) (h : calamusref32_made.f l0 = some (r1, r2)) :
  Calls Try.prog 76 #[.slice A0 l0.length c0] w fun e w' => ∃ v1_ : Value, e = .returned (.agg #[.int .i64 r1, v1_]) ∧ Kd.V (Kd.int .i64) 3 w' w.heap.size (fun k_ => (P0_ k_ ∨ w.heap.size ≤ k_)) v1_ r2 ∧ Below w.heap.size w w' := by
 have hu57 := Try.underlying57
 have HO0 := Aside0.mk (show Kd.V (Kd.int .i64) 3 w w.heap.size (fun k_ => (P0_ k_ ∨ w.heap.size ≤ k_)) (.slice A0 l0.length c0) l0 from Kd.V_mono hs0 (fun k_ hk => .inl hk))
 have HB := Aside0.mk (Below.refl w.heap.size w)
 have H : (if 0 < (l0.length : Int) then (if 1 ≤ (l0.length : Int) then (some (rd l0 0, (l0.drop 1))) else (none)) else (none)) = some (r1, r2) := h
 clear h
 by_cases c2 : 0 < (l0.length : Int)
 ·rw [if_pos c2] at H
  have c2b0 : decide (0 < (l0.length : Int)) = true := decide_eq_true c2
  have c2b1 : decide (0 < l0.length) = true := decide_eq_true (by omega)
  clear c2
  by_cases c3 : 1 ≤ (l0.length : Int)
  ·rw [if_pos c3] at H
   have c3b0 := eq_true c3
   have c3b1 : decide (1 ≤ (l0.length : Int)) = true := decide_eq_true c3
   clear c3
   obtain ⟨y132, hy132⟩ : ∃ y_ : List Int, y_ = (l0.drop 1) := ⟨_, rfl⟩
   replace H : (some (rd l0 0, y132)) = some (r1, r2) := th_ H hy132
   have Ny132 := Aside0.mk hy132
   clear hy132
   simp only [Option.some.injEq, Prod.mk.injEq] at H
   obtain ⟨rfl, rfl⟩ := H
   go_enter Try.func76, Try.ntmps76
   try go_wp2_with (first | ((with_reducible refine gate_dst (N := 2) rfl ?_); refine be_ (N := 2) (cs := #[.int .i64 0, .slice none 0 0]) (t := 57) (h := ?_); intro gb130 hg w4 hbox hb; have BK130 := Aside0.mk (hbox); have GW130 := gw_ HB hg; have GE130 := gw_ HB hg; replace HO0 := Aside0.mk (Kd.V_below (Kd.V_elderB (vw_ HO0.out) gb130 (Nat.le_of_eq hg.symm)) hb); replace HB := bs_ HB hb; clear hb hbox hg))
   have n0_ := Aside0.mk (Kd.V_drew HO0.out)
   have n1_ := Aside0.mk (blk_drew BK130.out)
   have n2_ := Aside0.mk (below_drew1 HB.out)
   clear HO0
   clear BK130
   clear HB
   have HO0 := n0_
   have BK130 := n1_
   have HB := n2_
   clear n0_ n1_ n2_
   have p131 : 0 ≤ (0 : Int) := (by omega)
   have q131 : 0 < (l0.length : Int) := of_decide_eq_true as_
   obtain ⟨ad131, e131, hx131_0⟩ := Kd.at_int (Kd.V_reads' HO0.out).2.2 0 p131 q131
   cases e131
   have qi131 : (0 < l0.length) = True := eq_true (by omega)
   (try rw [show ((0 : Int)).toNat = 0 from rfl] at hx131_0)
   (try rw [Addr.add_zero'] at hx131_0)
   replace p131 := eq_true p131
   replace q131 := eq_true q131
   have q6 : (1 : Int) ≤ ((l0.length : Int) : Int) := of_decide_eq_true as_
   obtain ⟨i06, hi06, _, hsz6, _⟩ := info_parts info3
   have hroom6 : l0.length ≤ c0 := (Kd.V_reads' HO0.out).2.1
   have hC6 : Kd.F (Kd.int .i64) _ _ (some ad131) l0.length l0 := (Kd.V_at (base := w.heap.size) HO0.out).2.2
   have hcut6 := cut_from (P := Try.prog) 22 3 .i64 Try.underlying22 hi06 1 hsz6 (some ad131) l0.length c0 1 (by omega) q6
   have hr6 := Kd.F_cut (m := (1 : Int).toNat) (c := c0) hC6 (by omega) hroom6
   obtain ⟨A6, hA6⟩ : ∃ A1, A1 = (if c0 = (1 : Int).toNat then (some ad131) else ((some ad131) : Option Addr).map (·.add ((1 : Int).toNat * 1))) := ⟨_, rfl⟩
   obtain ⟨c6, hc6⟩ : ∃ c1, c1 = c0 - (1 : Int).toNat := ⟨_, rfl⟩
   have hy6 : y132.length = l0.length - (1 : Int).toNat := (by rw [Ny132.out, List.length_drop] <;> omega)
   rw [show (l0).drop (1 : Int).toNat = y132 from Ny132.out.symm] at hr6
   replace hr6 : Kd.F (Kd.int .i64) _ _ A6 y132.length y132 := (by rw [hA6]; exact hr6)
   rw [← hy6, ← hA6, ← hc6] at hcut6
   have HO136 := Aside0.mk (show Kd.V (Kd.int .i64) 3 _ w.heap.size _ (.slice A6 y132.length c6) y132 from Kd.V_mk (by rw [hy6, hc6]; exact Nat.sub_le_sub_right hroom6 _) hr6)
   have HC136 := Aside0.mk (show y132.length ≤ c6 from by rw [hy6, hc6]; exact Nat.sub_le_sub_right hroom6 _)
   clear hr6 hC6 hroom6 hi06 hsz6 hc6
   have KY6 := Aside0.mk hy6
   have KA6 := Aside0.mk hA6
   clear hy6 hA6
   replace q6 := eq_true q6
   refine start_ (n := 7) (S := fun w' => w'.cell? ad131 = some (.int .i64 (rd l0 0))) (ds := []) #[false, false, false, false, false, false, false] (by kernel_rfl) rfl rfl (hx131_0) (fun hHeld => ?_)
   generalize w4.drew = w5 at HO0 BK130 HB HO136 hx131_0 hHeld ⊢
   refine pure_ (i := 0) (N := some 3) (v := ?_) (a' := ?_) #[true, false, false, false, false, false, false] rfl rfl (by kernel_rfl) (fun _ _ _ h => h) (Or.inl ⟨by rfl, ?_⟩) ?_ ?_
   rotate_left
   ·intro w'
    go_simp
    with_reducible rfl
   rotate_left
   ·simp only [Act.put, List.setIfInBounds_toArray, List.set_cons_zero, List.set_cons_succ, i64_w, i32_w]
    rfl
   refine pure_ (i := 1) (N := some 4) (v := ?_) (a' := ?_) #[true, true, false, false, false, false, false] rfl rfl (by kernel_rfl) (fun _ _ _ h => h) (Or.inl ⟨by rfl, ?_⟩) ?_ ?_
   rotate_left
   ·intro w'
    go_simp
    with_reducible rfl
   rotate_left
   ·simp only [Act.put, List.setIfInBounds_toArray, List.set_cons_zero, List.set_cons_succ, i64_w, i32_w]
    rfl
   refine pure_ (i := 3) (N := some 6) (v := ?_) (a' := ?_) #[true, true, false, true, false, false, false] rfl rfl (by kernel_rfl) (fun _ _ _ h => h) (Or.inl ⟨by rfl, ?_⟩) ?_ ?_
   rotate_left
   ·intro w'
    go_simp
    with_reducible rfl
   rotate_left
   ·simp only [Act.put, List.setIfInBounds_toArray, List.set_cons_zero, List.set_cons_succ, i64_w, i32_w]
    rfl
   refine pure_ (i := 4) (N := some 7) (v := ?_) (a' := ?_) #[true, true, false, true, true, false, false] rfl rfl (by kernel_rfl) (fun _ _ _ h => h) (Or.inl ⟨by rfl, ?_⟩) ?_ ?_
   rotate_left
   ·intro w'
    go_simp
    with_reducible rfl
   rotate_left
   ·simp only [Act.put, List.setIfInBounds_toArray, List.set_cons_zero, List.set_cons_succ, i64_w, i32_w]
    rfl
   refine take_ (i := 2) (N := some 5) (v := ?_) (a' := ?_) #[true, true, true, true, true, false, false] rfl rfl (by kernel_rfl) (fun _ _ _ h => h) (Or.inl ⟨by rfl, ?_⟩) hHeld ?_ ?_
   rotate_left
   ·intro w' s0
    go_simp
    with_reducible rfl
   rotate_left
   ·simp only [Act.put, List.setIfInBounds_toArray, List.set_cons_zero, List.set_cons_succ, i64_w, i32_w]
    rfl
   refine pure_ (i := 5) (N := some 8) (v := ?_) (a' := ?_) #[true, true, true, true, true, true, false] rfl rfl (by kernel_rfl) (fun _ _ _ h => h) (Or.inl ⟨by rfl, ?_⟩) ?_ ?_
   rotate_left
   ·intro w'
    go_simp
    with_reducible rfl
   rotate_left
   ·simp only [Act.put, List.setIfInBounds_toArray, List.set_cons_zero, List.set_cons_succ, i64_w, i32_w]
    rfl
   refine one_ (i := 6) (N := none) #[true, true, true, true, true, true, true] rfl rfl (by kernel_rfl) (by decide) (fun K hK => ?_)
   have hs7 : w5.cell? ⟨gb130, 0, none⟩ = some (.int .i64 0) := (blk_cell BK130.out 0).trans rfl
   have hfs7 := blk_frozen BK130.out 0
   have hs8 : w5.cell? ⟨gb130, 1, none⟩ = some (.slice none 0 0) := (blk_cell BK130.out 1).trans rfl
   have hfs8 := blk_frozen BK130.out 1
   refine skip_ (w1 := ?_) (by rfl) rfl ?_ ?_
   rotate_left
   ·go_simp
    rfl
   refine hK.out _ _ (((cell_far (p := ⟨gb130, _, none⟩) (by first | exact Kd.own_blk (Kd.V_away HO0.out (fun _ hk => hk.2)) | (rw [add_block]; exact Kd.own_blk (Kd.V_away HO0.out (fun _ hk => hk.2))) | (show (Addr.add _ _).block ≠ _; rw [add_block]; exact Kd.own_blk (Kd.V_away HO0.out (fun _ hk => hk.2))) | (dsimp only; exact Kd.own_blk (Kd.V_away HO0.out (fun _ hk => hk.2)))) _).trans (((cell_far (p := ⟨gb130, _, none⟩) (by first | exact Kd.own_blk (Kd.V_away HO0.out (fun _ hk => hk.2)) | (rw [add_block]; exact Kd.own_blk (Kd.V_away HO0.out (fun _ hk => hk.2))) | (show (Addr.add _ _).block ≠ _; rw [add_block]; exact Kd.own_blk (Kd.V_away HO0.out (fun _ hk => hk.2))) | (dsimp only; exact Kd.own_blk (Kd.V_away HO0.out (fun _ hk => hk.2)))) _).trans (hHeld))))) (fun hHeld => ?_)
   clear hK K
   refine done_ (by kernel_rfl) ?_
   try go_wp2
   refine bodyPost_ret (results_cell_row rfl _ _ gb130 57 #[.int .i64 (rd l0 0), .slice A6 y132.length c6] (0, 0) _ rfl (bp_ BK130.out) Try.underlying57 rfl (by kernel_rfl)) rfl ?_
   exact ⟨_, er_, by (with_reducible repeat (first | apply Kd.V_alloc | apply Kd.V_drewN | apply Kd.V_drew)); exact Kd.V_mono (vf_ (Kd.V_mono HO136.out (fun k_ hk => (⟨hk, hk.2⟩ : _ ∧ k_ ≠ gb130))) (fun _ hk => hk.2)) (fun _ hk => hk.1.1), hb_ HB⟩
  ·rw [if_neg c3] at H
   exact absurd H (by simp)
 ·rw [if_neg c2] at H
  exact absurd H (by simp)

/-! ### calamusref32_Round: function 53 -/
def calamusref32_Round.l0 : Nat → List Int → List Int → List Int → Int → Option (Int × List Int)
 | 0, _, _, _, _ => none
 | k + 1, x5, x6, x7, x8 => if x8 < (x5.length : Int) then (if x8 < (x6.length : Int) then (if 0 ≤ x8 then (if (wrap64 ((rd x5 x8) + 1)) = 0 then (none) else (if x8 < (x7.length : Int) then (calamusref32_Round.l0 k x5 x6 (x7.set (x8 : Int).toNat (Int.tmod (wrap64 ((wrap64 ((Int.tmod (rd x6 x8) (wrap64 ((rd x5 x8) + 1))) + (rd x5 x8))) + 1)) (wrap64 ((rd x5 x8) + 1)))) (wrap64 (x8 + 1))) else (none))) else (none)) else (calamusref32_Round.l0 k x5 x6 x7 (wrap64 (x8 + 1)))) else ((calamusref32_made.f x7).bind fun bt155 => (some (bt155.1, bt155.2)))
def calamusref32_Round.f (k : Nat) (a0_0 : Int) (l0_1 : List Int) (a1_0 : Int) (l1_1 : List Int) : Option (Int × List Int) := (calamusref32_right.f k a0_0 l0_1).bind fun t140 => (if t140 = true then ((calamusref32_flat.f a0_0 l0_1).bind fun t141 => ((calamusref32_flat.f a1_0 l1_1).bind fun t144 => (if 0 ≤ (t141.length : Int) then (if ((t141.length : Int) : Int).toNat ≤ 35184372088832 then (calamusref32_Round.l0 k t141 t144 (List.replicate ((t141.length : Int) : Int).toNat 0) 0) else (none)) else (none)))) else (some (0, ([] : List Int))))
theorem calamusref32_Round.mono_l : ∀ k, (∀ y0 y1 y2 y3, LeO (calamusref32_Round.l0 k y0 y1 y2 y3) (calamusref32_Round.l0 (k + 1) y0 y1 y2 y3))
 | 0 => fun _ _ _ _ r h => by simp [calamusref32_Round.l0] at h
 | k + 1 => by
  have ih0 := calamusref32_Round.mono_l k
  ·intro y0 y1 y2 y3
   unfold calamusref32_Round.l0
   repeat' first
   | (with_reducible exact ih0 _ _ _ _)
   | (with_reducible exact calamusref32_right.mono _ _ _)
   | (with_reducible exact LeO.refl _)
   | (with_reducible exact LeO.none _)
   | (with_reducible refine LeO.ite ?_ ?_)
   | (with_reducible refine LeO.bind ?_ (fun _ => ?_))
   | exact ih0 _ _ _ _
   | exact calamusref32_right.mono _ _ _
   | exact LeO.none _
   | refine LeO.ite ?_ ?_
   | refine LeO.bind ?_ (fun _ => ?_)
theorem calamusref32_Round.mono : ∀ a0 a1 a2 a3 k, LeO (calamusref32_Round.f k a0 a1 a2 a3) (calamusref32_Round.f (k + 1) a0 a1 a2 a3) := by
 intro a0 a1 a2 a3 k
 have ih0 := calamusref32_Round.mono_l k
 unfold calamusref32_Round.f
 repeat' first
   | (with_reducible exact ih0 _ _ _ _)
   | (with_reducible exact calamusref32_right.mono _ _ _)
   | (with_reducible exact LeO.refl _)
   | (with_reducible exact LeO.none _)
   | (with_reducible refine LeO.ite ?_ ?_)
   | (with_reducible refine LeO.bind ?_ (fun _ => ?_))
   | exact ih0 _ _ _ _
   | exact calamusref32_right.mono _ _ _
   | exact LeO.none _
   | refine LeO.ite ?_ ?_
   | refine LeO.bind ?_ (fun _ => ?_)
def calamusref32_Round.T9 : Bool × List (List Nat × List Nat) := (true, [([], []), ([], []), ([], []), ([], []), ([2, 3], [2, 3]), ([4], [4]), ([], []), ([], []), ([6, 7], [6, 7]), ([8], [8]), ([9], [9]), ([5, 10], [5, 10]), ([], []), ([], []), ([12, 13], [12, 13]), ([14], [14]), ([11, 15], [11, 15]), ([16], [16]), ([], []), ([], []), ([18, 19], [18, 19]), ([20], [20]), ([21], [21]), ([17, 22], [17, 22]), ([0, 1, 0, 1, 2, 3, 4, 5, 6, 7, 8, 9, 10, 11, 12, 13, 14, 15, 16, 17, 18, 19, 20, 21, 22, 23], [0, 1]), ([24, 23, 0, 1, 2, 3, 4, 5, 6, 7, 8, 9, 10, 11, 12, 13, 14, 15, 16, 17, 18, 19, 20, 21, 22, 23], [23, 24])])
def calamusref32_Round.B9 : List Nat := [0, 0, 0, 0, 12, 28, 0, 0, 192, 448, 960, 2044, 0, 0, 12288, 28672, 65532, 131068, 0, 0, 786432, 1835008, 3932160, 8388604, 16777215, 33554431]
theorem calamusref32_Round.tab9 : rtab .any (opsOf Try.f53 9) = calamusref32_Round.T9 := by kernel_rfl
theorem calamusref32_Round.bits9 : waitsOk calamusref32_Round.T9.2 calamusref32_Round.B9 = true := by kernel_rfl
set_option maxHeartbeats 8000000 in
set_option maxRecDepth 100000 in
theorem calamusref32_Round.calls (k : Nat) (a0_0 : Int) (A0_1 : Option Addr) (c0_1 : Nat) (l0_1 : List Int) (a1_0 : Int) (A1_1 : Option Addr) (c1_1 : Nat) (l1_1 : List Int) (r1 : Int) (r2 : List Int) (w : World) (hr0_1 : Kd.C (Kd.int .i64) w A0_1 l0_1.length l0_1) (hc0_1 : l0_1.length ≤ c0_1) (hr1_1 : Kd.C (Kd.int .i64) w A1_1 l1_1.length l1_1) (hc1_1 : l1_1.length ≤ c1_1) (h : calamusref32_Round.f k a0_0 l0_1 a1_0 l1_1 = some (r1, r2)) :
  Calls Try.prog 53 #[.agg #[.int .i64 a0_0, .slice A0_1 l0_1.length c0_1], .agg #[.int .i64 a1_0, .slice A1_1 l1_1.length c1_1]] w fun e w' => ∃ v1_ : Value, e = .returned (.agg #[.int .i64 r1, v1_]) ∧ Kd.V (Kd.int .i64) 3 w' w.heap.size (fun k_ => (w.heap.size ≤ k_)) v1_ r2 ∧ Below w.heap.size w w' := by
 have hu57 := Try.underlying57
 have HR0_1 := Aside0.mk hr0_1
 have HC0_1 := Aside0.mk hc0_1
 clear hr0_1 hc0_1
 have HR1_1 := Aside0.mk hr1_1
 have HC1_1 := Aside0.mk hc1_1
 clear hr1_1 hc1_1
 have HB := Aside0.mk (Below.refl w.heap.size w)
 have H : ((calamusref32_right.f k a0_0 l0_1).bind fun t140 => (if t140 = true then ((calamusref32_flat.f a0_0 l0_1).bind fun t141 => ((calamusref32_flat.f a1_0 l1_1).bind fun t144 => (if 0 ≤ (t141.length : Int) then (if ((t141.length : Int) : Int).toNat ≤ 35184372088832 then (calamusref32_Round.l0 k t141 t144 (List.replicate ((t141.length : Int) : Int).toNat 0) 0) else (none)) else (none)))) else (some (0, ([] : List Int))))) = some (r1, r2) := h
 clear h
 replace H := Option.bind_eq_some_iff.mp H
 obtain ⟨t140, A30, H⟩ := H
 replace H : (if t140 = true then ((calamusref32_flat.f a0_0 l0_1).bind fun t141 => ((calamusref32_flat.f a1_0 l1_1).bind fun t144 => (if 0 ≤ (t141.length : Int) then (if ((t141.length : Int) : Int).toNat ≤ 35184372088832 then (calamusref32_Round.l0 k t141 t144 (List.replicate ((t141.length : Int) : Int).toNat 0) 0) else (none)) else (none)))) else (some (0, ([] : List Int)))) = some (r1, r2) := H
 have A3 := Aside0.mk A30
 clear A30
 by_cases c4 : t140 = true
 ·subst c4
  have H1 : ((calamusref32_flat.f a0_0 l0_1).bind fun t141 => ((calamusref32_flat.f a1_0 l1_1).bind fun t144 => (if 0 ≤ (t141.length : Int) then (if ((t141.length : Int) : Int).toNat ≤ 35184372088832 then (calamusref32_Round.l0 k t141 t144 (List.replicate ((t141.length : Int) : Int).toNat 0) 0) else (none)) else (none)))) = some (r1, r2) := by rw [if_pos rfl] at H; exact H
  clear H
  have H := H1
  clear H1
  replace H := Option.bind_eq_some_iff.mp H
  obtain ⟨t141, A50, H⟩ := H
  replace H : ((calamusref32_flat.f a1_0 l1_1).bind fun t144 => (if 0 ≤ (t141.length : Int) then (if ((t141.length : Int) : Int).toNat ≤ 35184372088832 then (calamusref32_Round.l0 k t141 t144 (List.replicate ((t141.length : Int) : Int).toNat 0) 0) else (none)) else (none))) = some (r1, r2) := H
  have A5 := Aside0.mk A50
  clear A50
  replace H := Option.bind_eq_some_iff.mp H
  obtain ⟨t144, A60, H⟩ := H
  replace H : (if 0 ≤ (t141.length : Int) then (if ((t141.length : Int) : Int).toNat ≤ 35184372088832 then (calamusref32_Round.l0 k t141 t144 (List.replicate ((t141.length : Int) : Int).toNat 0) 0) else (none)) else (none)) = some (r1, r2) := H
  have A6 := Aside0.mk A60
  clear A60
  by_cases c7 : 0 ≤ (t141.length : Int)
  ·rw [if_pos c7] at H
   have c7b0 := eq_true c7
   have c7b1 : decide (0 ≤ (t141.length : Int)) = true := decide_eq_true c7
   clear c7
   by_cases c8 : ((t141.length : Int) : Int).toNat ≤ 35184372088832
   ·rw [if_pos c8] at H
    have c8b0 := eq_true c8
    have c8b1 : decide (((t141.length : Int) : Int).toNat ≤ 35184372088832) = true := decide_eq_true c8
    clear c8
    obtain ⟨y147, hy147⟩ : ∃ y_ : List Int, y_ = (List.replicate ((t141.length : Int) : Int).toNat 0) := ⟨_, rfl⟩
    replace H : (calamusref32_Round.l0 k t141 t144 y147 0) = some (r1, r2) := th_ H hy147
    have Ny147 := Aside0.mk hy147
    clear hy147
    have H' := Aside0.mk H
    clear H
    go_enter Try.func53, Try.ntmps53
    try go_wp2_with (first | ((with_reducible refine gate_dst (N := 2) rfl ?_); refine be_ (N := 2) (cs := #[.int .i64 a0_0, .slice A0_1 l0_1.length c0_1]) (t := 57) (h := ?_); intro gb137 hg w9 hbox hb; have BK137 := Aside0.mk (hbox); have GW137 := gw_ HB hg; have GE137 := gw_ HB hg; replace HB := bs_ HB hb; clear hb hbox hg) | ((with_reducible refine gate_dst (N := 3) rfl ?_); refine be_ (N := 3) (cs := #[.int .i64 a1_0, .slice A1_1 l1_1.length c1_1]) (t := 57) (h := ?_); intro gb138 hg w10 hbox hb; have BK138 := Aside0.mk (hbox); have GW138 := gw_ HB hg; have GE138 := gw_ HB hg; have NB137_138 := ne_ BK137 hg; have NB138_137 := en_ BK137 hg; replace BK137 := bb_ BK137 hb; replace HB := bs_ HB hb; clear hb hbox hg) | ((with_reducible refine gate_dst (N := 4) rfl ?_); refine be_ (N := 4) (cs := #[.int .i64 0, .slice none 0 0]) (t := 57) (h := ?_); intro gb139 hg w11 hbox hb; have BK139 := Aside0.mk (hbox); have GW139 := gw_ HB hg; have GE139 := gw_ HB hg; have NB137_139 := ne_ BK137 hg; have NB139_137 := en_ BK137 hg; have NB138_139 := ne_ BK138 hg; have NB139_138 := en_ BK138 hg; replace BK137 := bb_ BK137 hb; replace BK138 := bb_ BK138 hb; replace HB := bs_ HB hb; clear hb hbox hg; have hnb12 := NB137_138.out; have hnc12 := NB138_137.out; have hnb13 := NB137_139.out; have hnc13 := NB139_137.out; obtain ⟨hcz14_0, hcz14_1, hfz14_0, hfz14_1⟩ := bc2_ BK137) | ((with_reducible refine gate_callee (f := 74) rfl ?_); refine ge_ (some 10) rfl rfl Try.func74 (by kernel_rfl) rfl #[.agg #[.int .i64 a0_0, .slice A0_1 l0_1.length c0_1]] rfl (h := ?_); (with_reducible refine (calamusref32_right.calls k a0_0 _ _ l0_1 true _ ?side1 ?side2 A3.out).mono ?_); (case side1 => exact cw_ (Kd.C_below HR0_1.out HB.out)); (case side2 => exact HC0_1.out); rintro e w15 ⟨rfl, hb⟩; refine ⟨_, rfl, ?_⟩; replace BK137 := bb_ BK137 hb; replace BK138 := bb_ BK138 hb; replace BK139 := bb_ BK139 hb; replace HB := bs_ HB hb; (try clear hb); (try clear hb2); (try clear hk); (try clear hi)))
    have n0_ := Aside0.mk (blk_drew BK137.out)
    have n1_ := Aside0.mk (blk_drew BK138.out)
    have n2_ := Aside0.mk (blk_drew BK139.out)
    have n3_ := Aside0.mk (below_drew1 HB.out)
    clear BK137
    clear BK138
    clear BK139
    clear HB
    have BK137 := n0_
    have BK138 := n1_
    have BK139 := n2_
    have HB := n3_
    clear n0_ n1_ n2_ n3_
    refine start_ (n := 6) (S := fun w' => w'.cell? ⟨gb137, 0, none⟩ = some (.int .i64 a0_0) ∧ w'.cell? ⟨gb137, 1, none⟩ = some (.slice A0_1 l0_1.length c0_1) ∧ w'.cell? ⟨gb138, 0, none⟩ = some (.int .i64 a1_0) ∧ w'.cell? ⟨gb138, 1, none⟩ = some (.slice A1_1 l1_1.length c1_1)) (ds := []) #[false, false, false, false, false, false] (by kernel_rfl) rfl rfl ⟨(blk_cell BK137.out 0).trans rfl, (blk_cell BK137.out 1).trans rfl, (blk_cell BK138.out 0).trans rfl, (blk_cell BK138.out 1).trans rfl⟩ (fun hHeld => ?_)
    generalize w15.drew = w16 at BK137 BK138 BK139 HB hHeld ⊢
    refine take_ (i := 0) (N := some 13) (v := ?_) (a' := ?_) #[true, false, false, false, false, false] rfl rfl (by kernel_rfl) (fun _ _ _ h => h) (Or.inl ⟨by rfl, ?_⟩) hHeld ?_ ?_
    rotate_left
    ·rintro w' ⟨s0, s1, s2, s3⟩
     go_simp
     with_reducible rfl
    rotate_left
    ·simp only [Act.put, List.setIfInBounds_toArray, List.set_cons_zero, List.set_cons_succ, i64_w, i32_w]
     rfl
    refine take_ (i := 2) (N := some 15) (v := ?_) (a' := ?_) #[true, false, true, false, false, false] rfl rfl (by kernel_rfl) (fun _ _ _ h => h) (Or.inl ⟨by rfl, ?_⟩) hHeld ?_ ?_
    rotate_left
    ·rintro w' ⟨s0, s1, s2, s3⟩
     go_simp
     with_reducible rfl
    rotate_left
    ·simp only [Act.put, List.setIfInBounds_toArray, List.set_cons_zero, List.set_cons_succ, i64_w, i32_w]
     rfl
    refine one_ (i := 1) (N := some 14) #[true, true, true, false, false, false] rfl rfl (by kernel_rfl) (by decide) (fun K hK => ?_)
    refine goes_ Try.func75 (by kernel_rfl) rfl #[.agg #[.int .i64 a0_0, .slice A0_1 l0_1.length c0_1]] (by rfl) rfl rfl (by (try simp only [List.map_toArray, List.map_cons, List.map_nil]); first | done | rfl | (simp only [List.length_drop, List.length_take]; rfl)) ?_
    with_reducible refine (calamusref32_flat.calls a0_0 _ _ l0_1 t141 _ ?side1 ?side2 A5.out).mono ?_
    (case side1 => exact cw_ (Kd.C_below HR0_1.out HB.out))
    (case side2 => exact HC0_1.out)
    rintro e w17 ⟨v142, rfl, ho0, hb⟩
    refine ⟨_, rfl, ?_⟩
    have n0_ := Aside0.mk (Kd.R_lower (Kd.R_newM (M := fun k_ => (w.heap.size ≤ k_)) ho0 (below_size (hb_ HB)) (fun k_ h_ => h_)) (below_size (hb_ HB)))
    have n1_ := bb_ BK137 hb
    have n2_ := bb_ BK138 hb
    have n3_ := bb_ BK139 hb
    have n4_ := bs_ HB hb
    clear BK137
    clear BK138
    clear BK139
    clear HB
    have HO143 := n0_
    have BK137 := n1_
    have BK138 := n2_
    have BK139 := n3_
    have HB := n4_
    clear n0_ n1_ n2_ n3_ n4_
    (try clear hb)
    (try clear hb2)
    (try clear hk)
    (try clear hi)
    (try clear ho0)
    refine hK.out _ _ ⟨(blk_cell BK137.out 0).trans rfl, (blk_cell BK137.out 1).trans rfl, (blk_cell BK138.out 0).trans rfl, (blk_cell BK138.out 1).trans rfl⟩ (fun hHeld => ?_)
    clear hK K
    refine norm_ (a' := ?_) ?_ ?_
    rotate_left
    ·show Act.put _ (some 14) _ = _
     simp only [Act.put, List.setIfInBounds_toArray, List.set_cons_zero, List.set_cons_succ, i64_w, i32_w]
     rfl
    refine one_ (i := 3) (N := some 16) #[true, true, true, true, false, false] rfl rfl (by kernel_rfl) (by decide) (fun K hK => ?_)
    refine goes_ Try.func75 (by kernel_rfl) rfl #[.agg #[.int .i64 a1_0, .slice A1_1 l1_1.length c1_1]] (by rfl) rfl rfl (by (try simp only [List.map_toArray, List.map_cons, List.map_nil]); first | done | rfl | (simp only [List.length_drop, List.length_take]; rfl)) ?_
    with_reducible refine (calamusref32_flat.calls a1_0 _ _ l1_1 t144 _ ?side1 ?side2 A6.out).mono ?_
    (case side1 => exact cw_ (Kd.C_below HR1_1.out HB.out))
    (case side2 => exact HC1_1.out)
    rintro e w18 ⟨v145, rfl, ho0, hb⟩
    refine ⟨_, rfl, ?_⟩
    have n0_ := Aside0.mk (Kd.R_elder' (rw_ HO143.out) (Kd.R_base ho0) hb)
    have n1_ := Aside0.mk (Kd.R_lower (Kd.R_new' (Kd.R_newM (M := fun k_ => (w.heap.size ≤ k_)) ho0 (below_size (hb_ HB)) (fun k_ h_ => h_)) (Kd.R_lt (rw_ HO143.out))) (below_size (hb_ HB)))
    have n2_ := bb_ BK137 hb
    have n3_ := bb_ BK138 hb
    have n4_ := bb_ BK139 hb
    have n5_ := bs_ HB hb
    clear HO143
    clear BK137
    clear BK138
    clear BK139
    clear HB
    have HO143 := n0_
    have HO146 := n1_
    have BK137 := n2_
    have BK138 := n3_
    have BK139 := n4_
    have HB := n5_
    clear n0_ n1_ n2_ n3_ n4_ n5_
    (try clear hb)
    (try clear hb2)
    (try clear hk)
    (try clear hi)
    (try clear ho0)
    refine hK.out _ _ ⟨(blk_cell BK137.out 0).trans rfl, (blk_cell BK137.out 1).trans rfl, (blk_cell BK138.out 0).trans rfl, (blk_cell BK138.out 1).trans rfl⟩ (fun hHeld => ?_)
    clear hK K
    refine norm_ (a' := ?_) ?_ ?_
    rotate_left
    ·show Act.put _ (some 16) _ = _
     simp only [Act.put, List.setIfInBounds_toArray, List.set_cons_zero, List.set_cons_succ, i64_w, i32_w]
     rfl
    refine pure_ (i := 4) (N := some 5) (v := ?_) (a' := ?_) #[true, true, true, true, true, false] rfl rfl (by kernel_rfl) (fun _ _ _ h => h) (Or.inl ⟨by rfl, ?_⟩) ?_ ?_
    rotate_left
    ·intro w'
     go_simp
     with_reducible rfl
    rotate_left
    ·simp only [Act.put, List.setIfInBounds_toArray, List.set_cons_zero, List.set_cons_succ, i64_w, i32_w]
     rfl
    refine pure_ (i := 5) (N := some 6) (v := ?_) (a' := ?_) #[true, true, true, true, true, true] rfl rfl (by kernel_rfl) (fun _ _ _ h => h) (Or.inl ⟨by rfl, ?_⟩) ?_ ?_
    rotate_left
    ·intro w'
     go_simp
     with_reducible rfl
    rotate_left
    ·simp only [Act.put, List.setIfInBounds_toArray, List.set_cons_zero, List.set_cons_succ, i64_w, i32_w]
     rfl
    refine done_ (by kernel_rfl) ?_
    obtain ⟨Ao19, co19, eo19⟩ := Kd.R_slice HO143.out
    subst eo19
    try go_wp2_with (first | ((with_reducible refine gate_dst (N := 19) rfl ?_); refine Kd.R_make (Kd.int .i64) _ 3 rfl (N := 19) rfl 22 _ _ rfl (t141.length : Int) rfl rfl Try.underlying22 (.int .i64 0) 8 info3 rfl (by decide) (by omega) 0 (ok := fun _ => True) (okp := fun _ => True) rfl (fun _ hk => hk) trivial (of_decide_eq_true as_) (Nat.le_trans (Nat.mul_le_mul_right _ (of_decide_eq_true as_ : (t141.length : Int).toNat ≤ 35184372088832)) (by omega)) (Below.refl _ _) (Nat.le_refl _) ?_; intro v148 w20 ho21 hb hg_ hnew_; clear hg_ hnew_; (first | rw [← Ny147.out] at ho21 | (simp only [Int.reduceToNat] at ho21; rw [← Ny147.out] at ho21)); have HO149 := Aside0.mk (Kd.R_lower (Kd.R_new' (Kd.R_new' (Kd.R_newM (M := fun k_ => (w.heap.size ≤ k_)) ho21 (below_size (hb_ HB)) (fun k_ h_ => h_)) (Kd.R_lt (rw_ HO143.out))) (Kd.R_lt (rw_ HO146.out))) (below_size (hb_ HB))); replace HO143 := Aside0.mk (Kd.R_elder' (rw_ HO143.out) (Kd.R_base ho21) hb); replace HO146 := Aside0.mk (Kd.R_elder' (rw_ HO146.out) (Kd.R_base ho21) hb); replace BK137 := bb_ BK137 hb; replace BK138 := bb_ BK138 hb; replace BK139 := bb_ BK139 hb; replace HB := bs_ HB hb; clear hb ho21))
    go_loopg [8] k (fun kq v8 w' => ∃ (x7_1 : List Int) (x8_1 : Int), v8 = .int .i64 x8_1 ∧ Aside0 (calamusref32_Round.l0 kq t141 t144 x7_1 x8_1 = some (r1, r2)) ∧ Aside0 (kq ≤ k) ∧ Aside0 (Kd.R (Kd.int .i64) 3 w' w.heap.size (fun k_ => (w.heap.size ≤ k_) ∧ some k_ ≠ (v145 : Value).ownBlock ∧ some k_ ≠ (v148 : Value).ownBlock) (.slice Ao19 t141.length co19) t141) ∧ Aside0 (Kd.R (Kd.int .i64) 3 w' w.heap.size (fun k_ => (w.heap.size ≤ k_) ∧ some k_ ≠ ((.slice Ao19 t141.length co19) : Value).ownBlock ∧ some k_ ≠ (v148 : Value).ownBlock) v145 t144) ∧ Aside0 (Kd.R (Kd.int .i64) 3 w' w.heap.size (fun k_ => (w.heap.size ≤ k_) ∧ some k_ ≠ ((.slice Ao19 t141.length co19) : Value).ownBlock ∧ some k_ ≠ (v145 : Value).ownBlock) v148 x7_1) ∧ Aside0 (w'.heap[gb137]? = some (.cells #[.int .i64 a0_0, (.slice A0_1 l0_1.length c0_1)] 57 (0, 0))) ∧ Aside0 (w'.heap[gb138]? = some (.cells #[.int .i64 a1_0, (.slice A1_1 l1_1.length c1_1)] 57 (0, 0))) ∧ Aside0 (w'.heap[gb139]? = some (.cells #[.int .i64 0, (.slice none 0 0)] 57 (0, 0))) ∧ Aside0 (Below w.heap.size w w'))
    case atStart => exact ⟨(y147), (0), es_, H', ⟨Nat.le_refl _⟩, ⟨by (with_reducible repeat (first | apply Kd.R_alloc | apply Kd.R_drewN | apply Kd.R_drew)); exact Kd.R_mono HO143.out (fun _ hk => ⟨hk.1.1.1, ⟨hk.1.2, hk.2⟩⟩)⟩, ⟨by (with_reducible repeat (first | apply Kd.R_alloc | apply Kd.R_drewN | apply Kd.R_drew)); exact Kd.R_mono HO146.out (fun _ hk => ⟨hk.1.1.1, ⟨hk.1.2, hk.2⟩⟩)⟩, ⟨by (with_reducible repeat (first | apply Kd.R_alloc | apply Kd.R_drewN | apply Kd.R_drew)); exact Kd.R_mono HO149.out (fun _ hk => ⟨hk.1.1.1, ⟨hk.1.2, hk.2⟩⟩)⟩, ⟨bw_ BK137.out⟩, ⟨bw_ BK138.out⟩, ⟨bw_ BK139.out⟩, ⟨hb_ HB⟩⟩
    case round =>
     clear H'
     try clear c4
     try clear c7
     try clear c7b0
     try clear c7b1
     try clear c8
     try clear c8b0
     try clear c8b1
     try clear hcz14_0
     try clear hcz14_1
     try clear hfz14_0
     try clear hfz14_1
     obtain ⟨x7_1, x8_1, rfl, HA, HK1, HO_5, HO_6, HO_7, BK137, BK138, BK139, HB⟩ := hrel
     cases gk with
     | zero => exact absurd HA.out (by simp [calamusref32_Round.l0])
     | succ k1 =>
      have H := HA.out
      clear HA
      simp only [calamusref32_Round.l0] at H
      by_cases c22 : x8_1 < (t141.length : Int)
      ·rw [if_pos c22] at H
       have c22b0 : decide (x8_1 < (t141.length : Int)) = true := decide_eq_true c22
       clear c22
       by_cases c23 : x8_1 < (t144.length : Int)
       ·rw [if_pos c23] at H
        have c23b0 : decide (x8_1 < (t144.length : Int)) = true := decide_eq_true c23
        clear c23
        by_cases c24 : 0 ≤ x8_1
        ·rw [if_pos c24] at H
         have c24b0 : decide (0 ≤ x8_1) = true := decide_eq_true c24
         clear c24
         by_cases c25 : (wrap64 ((rd t141 x8_1) + 1)) = 0
         ·rw [if_pos c25] at H
          exact absurd H (by simp)
         ·rw [if_neg c25] at H
          have c25b0 : ((wrap64 ((rd t141 x8_1) + 1)) == 0) = false := beq_eq_false_iff_ne.mpr c25
          have c25b1 : ((wrap64 ((rd t141 x8_1) + 1)) != 0) = true := bne_iff_ne.mpr c25
          by_cases c26 : x8_1 < (x7_1.length : Int)
          ·rw [if_pos c26] at H
           have c26b0 : decide (x8_1 < (x7_1.length : Int)) = true := decide_eq_true c26
           clear c26
           obtain ⟨y154, hy154⟩ : ∃ y_ : List Int, y_ = (x7_1.set (x8_1 : Int).toNat (Int.tmod (wrap64 ((wrap64 ((Int.tmod (rd t144 x8_1) (wrap64 ((rd t141 x8_1) + 1))) + (rd t141 x8_1))) + 1)) (wrap64 ((rd t141 x8_1) + 1)))) := ⟨_, rfl⟩
           replace H : (calamusref32_Round.l0 k1 t141 t144 y154 (wrap64 (x8_1 + 1))) = some (r1, r2) := th_ H hy154
           have Ny154 := Aside0.mk hy154
           clear hy154
           have H' := Aside0.mk H
           clear H
           obtain ⟨Ao28, co28, eo28⟩ := Kd.R_slice HO_6.out
           subst eo28
           try go_wp2
           have n0_ := Aside0.mk (Kd.R_drew HO_5.out)
           have n1_ := Aside0.mk (Kd.R_drew HO_6.out)
           have n2_ := Aside0.mk (Kd.R_drew HO_7.out)
           have n3_ := Aside0.mk (blk_drew BK137.out)
           have n4_ := Aside0.mk (blk_drew BK138.out)
           have n5_ := Aside0.mk (blk_drew BK139.out)
           have n6_ := Aside0.mk (below_drew1 HB.out)
           clear HO_5
           clear HO_6
           clear HO_7
           clear BK137
           clear BK138
           clear BK139
           clear HB
           have HO_5 := n0_
           have HO_6 := n1_
           have HO_7 := n2_
           have BK137 := n3_
           have BK138 := n4_
           have BK139 := n5_
           have HB := n6_
           clear n0_ n1_ n2_ n3_ n4_ n5_ n6_
           have p150 : 0 ≤ (x8_1 : Int) := of_decide_eq_true as_
           have q150 : x8_1 < (t144.length : Int) := of_decide_eq_true as_
           obtain ⟨ad150, e150, hx150_0⟩ := Kd.at_int (Kd.R_reads' HO_6.out).2.2 x8_1 p150 q150
           cases e150
           replace p150 := eq_true p150
           replace q150 := eq_true q150
           have p151 : 0 ≤ (x8_1 : Int) := of_decide_eq_true as_
           have q151 : x8_1 < (t141.length : Int) := of_decide_eq_true as_
           obtain ⟨ad151, e151, hx151_0⟩ := Kd.at_int (Kd.R_reads' HO_5.out).2.2 x8_1 p151 q151
           cases e151
           replace p151 := eq_true p151
           replace q151 := eq_true q151
           have p152 : 0 ≤ (x8_1 : Int) := of_decide_eq_true as_
           have q152 : x8_1 < (t141.length : Int) := of_decide_eq_true as_
           obtain ⟨ad152, e152, hx152_0⟩ := Kd.at_int (Kd.R_reads' HO_5.out).2.2 x8_1 p152 q152
           obtain rfl : ad151 = ad152 := (by injection e152)
           replace p152 := eq_true p152
           replace q152 := eq_true q152
           have p153 : 0 ≤ (x8_1 : Int) := of_decide_eq_true as_
           have q153 : x8_1 < (t141.length : Int) := of_decide_eq_true as_
           obtain ⟨ad153, e153, hx153_0⟩ := Kd.at_int (Kd.R_reads' HO_5.out).2.2 x8_1 p153 q153
           obtain rfl : ad151 = ad153 := (by injection e153)
           replace p153 := eq_true p153
           replace q153 := eq_true q153
           have p27 : 0 ≤ (x8_1 : Int) := of_decide_eq_true as_
           have q27 : (x8_1 : Int) < ((x7_1.length : Int) : Int) := of_decide_eq_true as_
           obtain ⟨go27, co27, eo27, gb27, gl27, cl27, HG27⟩ := Kd.R_form HO_7.out (by omega)
           (first | cases eo27 | (injection eo27 with ea_ en_ ec_; (first | subst ea_ | (injection ea_ with ea_; subst ea_)); subst ec_; clear en_))
           have GB27 := Aside0.mk gb27
           have GG27 := Aside0.mk HG27
           clear gb27 gl27 HG27
           obtain ⟨hx27_0, hf27_0⟩ := Kd.R_celln 0 HO_7.out (x8_1 : Int) p27 q27
           replace p27 := eq_true p27
           replace q27 := eq_true q27
           have HP30 := Kd.R_putn HO_7.out (x8_1 : Int) (Int.tmod (wrap64 ((wrap64 ((Int.tmod (rd t144 x8_1) (wrap64 ((rd t141 x8_1) + 1))) + (rd t141 x8_1))) + 1)) (wrap64 ((rd t141 x8_1) + 1)))
           rw [← Ny154.out] at HP30
           have HQ30 := Aside0.mk HP30
           clear HP30
           refine start_ (n := 26) (S := fun w' => w'.cell? (ad150.add (x8_1).toNat) = some (.int .i64 (rd t144 x8_1)) ∧ w'.cell? (ad151.add (x8_1).toNat) = some (.int .i64 (rd t141 x8_1)) ∧ w'.cell? (ad151.add (x8_1).toNat) = some (.int .i64 (rd t141 x8_1)) ∧ w'.cell? (ad151.add (x8_1).toNat) = some (.int .i64 (rd t141 x8_1))) (ds := [25]) #[false, false, false, false, false, false, false, false, false, false, false, false, false, false, false, false, false, false, false, false, false, false, false, false, false, false] (by kernel_rfl) rfl rfl ⟨hx150_0, hx151_0, hx152_0, hx153_0⟩ (fun hHeld => ?_); refine with_tabW calamusref32_Round.tab9 calamusref32_Round.bits9 (fun HT_ HW_ => ?_)
           generalize wr.drew = w29 at HO_5 HO_6 HO_7 BK137 BK138 BK139 HB GG27 HQ30 hf27_0 hx150_0 hx151_0 hx152_0 hx153_0 hx27_0 hHeld ⊢
           refine pp_ (i := 0) (N := some 30) #[true, false, false, false, false, false, false, false, false, false, false, false, false, false, false, false, false, false, false, false, false, false, false, false, false, false] rfl rfl (any_of HT_.out (by kernel_rfl)) (h := ?_)
           refine pp_ (i := 1) (N := some 31) #[true, true, false, false, false, false, false, false, false, false, false, false, false, false, false, false, false, false, false, false, false, false, false, false, false, false] rfl rfl (any_of HT_.out (by kernel_rfl)) (h := ?_)
           refine pp_ (i := 2) (N := some 32) #[true, true, true, false, false, false, false, false, false, false, false, false, false, false, false, false, false, false, false, false, false, false, false, false, false, false] rfl rfl (any_of HT_.out (by kernel_rfl)) (h := ?_)
           refine pp_ (i := 3) (N := some 33) #[true, true, true, true, false, false, false, false, false, false, false, false, false, false, false, false, false, false, false, false, false, false, false, false, false, false] rfl rfl (any_of HT_.out (by kernel_rfl)) (h := ?_)
           refine pp_ (i := 4) (N := some 34) #[true, true, true, true, true, false, false, false, false, false, false, false, false, false, false, false, false, false, false, false, false, false, false, false, false, false] rfl rfl (any_of HT_.out (by kernel_rfl)) (h := ?_)
           refine pp_ (i := 6) (N := some 36) #[true, true, true, true, true, false, true, false, false, false, false, false, false, false, false, false, false, false, false, false, false, false, false, false, false, false] rfl rfl (any_of HT_.out (by kernel_rfl)) (h := ?_)
           refine pp_ (i := 7) (N := some 37) #[true, true, true, true, true, false, true, true, false, false, false, false, false, false, false, false, false, false, false, false, false, false, false, false, false, false] rfl rfl (any_of HT_.out (by kernel_rfl)) (h := ?_)
           refine pp_ (i := 8) (N := some 38) #[true, true, true, true, true, false, true, true, true, false, false, false, false, false, false, false, false, false, false, false, false, false, false, false, false, false] rfl rfl (any_of HT_.out (by kernel_rfl)) (h := ?_)
           refine pp_ (i := 12) (N := some 42) #[true, true, true, true, true, false, true, true, true, false, false, false, true, false, false, false, false, false, false, false, false, false, false, false, false, false] rfl rfl (any_of HT_.out (by kernel_rfl)) (h := ?_)
           refine pp_ (i := 13) (N := some 43) #[true, true, true, true, true, false, true, true, true, false, false, false, true, true, false, false, false, false, false, false, false, false, false, false, false, false] rfl rfl (any_of HT_.out (by kernel_rfl)) (h := ?_)
           refine pp_ (i := 14) (N := some 44) #[true, true, true, true, true, false, true, true, true, false, false, false, true, true, true, false, false, false, false, false, false, false, false, false, false, false] rfl rfl (any_of HT_.out (by kernel_rfl)) (h := ?_)
           refine pp_ (i := 18) (N := some 48) #[true, true, true, true, true, false, true, true, true, false, false, false, true, true, true, false, false, false, true, false, false, false, false, false, false, false] rfl rfl (any_of HT_.out (by kernel_rfl)) (h := ?_)
           refine pp_ (i := 19) (N := some 49) #[true, true, true, true, true, false, true, true, true, false, false, false, true, true, true, false, false, false, true, true, false, false, false, false, false, false] rfl rfl (any_of HT_.out (by kernel_rfl)) (h := ?_)
           refine pp_ (i := 20) (N := some 50) #[true, true, true, true, true, false, true, true, true, false, false, false, true, true, true, false, false, false, true, true, true, false, false, false, false, false] rfl rfl (any_of HT_.out (by kernel_rfl)) (h := ?_)
           refine take_ (i := 5) (N := some 35) (v := ?_) (a' := ?_) #[true, true, true, true, true, true, true, true, true, false, false, false, true, true, true, false, false, false, true, true, true, false, false, false, false, false] rfl rfl (take_ofW HT_.out HW_.out (by kernel_rfl)) (fun _ _ _ h => h) (Or.inl ⟨by rfl, ?_⟩) hHeld ?_ ?_
           rotate_left
           ·rintro w' ⟨s0, s1, s2, s3⟩
            go_simp
            with_reducible rfl
           rotate_left
           ·simp only [Act.put, List.setIfInBounds_toArray, List.set_cons_zero, List.set_cons_succ, i64_w, i32_w]
            rfl
           refine take_ (i := 9) (N := some 39) (v := ?_) (a' := ?_) #[true, true, true, true, true, true, true, true, true, true, false, false, true, true, true, false, false, false, true, true, true, false, false, false, false, false] rfl rfl (take_ofW HT_.out HW_.out (by kernel_rfl)) (fun _ _ _ h => h) (Or.inl ⟨by rfl, ?_⟩) hHeld ?_ ?_
           rotate_left
           ·rintro w' ⟨s0, s1, s2, s3⟩
            go_simp
            with_reducible rfl
           rotate_left
           ·simp only [Act.put, List.setIfInBounds_toArray, List.set_cons_zero, List.set_cons_succ, i64_w, i32_w]
            rfl
           refine pp_ (i := 10) (N := some 40) #[true, true, true, true, true, true, true, true, true, true, true, false, true, true, true, false, false, false, true, true, true, false, false, false, false, false] rfl rfl (any_of HT_.out (by kernel_rfl)) (h := ?_)
           refine pp_ (i := 11) (N := some 41) #[true, true, true, true, true, true, true, true, true, true, true, true, true, true, true, false, false, false, true, true, true, false, false, false, false, false] rfl rfl (any_of HT_.out (by kernel_rfl)) (h := ?_)
           refine take_ (i := 15) (N := some 45) (v := ?_) (a' := ?_) #[true, true, true, true, true, true, true, true, true, true, true, true, true, true, true, true, false, false, true, true, true, false, false, false, false, false] rfl rfl (take_ofW HT_.out HW_.out (by kernel_rfl)) (fun _ _ _ h => h) (Or.inl ⟨by rfl, ?_⟩) hHeld ?_ ?_
           rotate_left
           ·rintro w' ⟨s0, s1, s2, s3⟩
            go_simp
            with_reducible rfl
           rotate_left
           ·simp only [Act.put, List.setIfInBounds_toArray, List.set_cons_zero, List.set_cons_succ, i64_w, i32_w]
            rfl
           refine pp_ (i := 16) (N := some 46) #[true, true, true, true, true, true, true, true, true, true, true, true, true, true, true, true, true, false, true, true, true, false, false, false, false, false] rfl rfl (any_of HT_.out (by kernel_rfl)) (h := ?_)
           refine pp_ (i := 17) (N := some 47) #[true, true, true, true, true, true, true, true, true, true, true, true, true, true, true, true, true, true, true, true, true, false, false, false, false, false] rfl rfl (any_of HT_.out (by kernel_rfl)) (h := ?_)
           refine take_ (i := 21) (N := some 51) (v := ?_) (a' := ?_) #[true, true, true, true, true, true, true, true, true, true, true, true, true, true, true, true, true, true, true, true, true, true, false, false, false, false] rfl rfl (take_ofW HT_.out HW_.out (by kernel_rfl)) (fun _ _ _ h => h) (Or.inl ⟨by rfl, ?_⟩) hHeld ?_ ?_
           rotate_left
           ·rintro w' ⟨s0, s1, s2, s3⟩
            go_simp
            with_reducible rfl
           rotate_left
           ·simp only [Act.put, List.setIfInBounds_toArray, List.set_cons_zero, List.set_cons_succ, i64_w, i32_w]
            rfl
           refine pp_ (i := 22) (N := some 52) #[true, true, true, true, true, true, true, true, true, true, true, true, true, true, true, true, true, true, true, true, true, true, true, false, false, false] rfl rfl (any_of HT_.out (by kernel_rfl)) (h := ?_)
           refine pp_ (i := 23) (N := some 53) #[true, true, true, true, true, true, true, true, true, true, true, true, true, true, true, true, true, true, true, true, true, true, true, true, false, false] rfl rfl (any_of HT_.out (by kernel_rfl)) (h := ?_)
           refine pp_ (i := 24) (N := some 54) #[true, true, true, true, true, true, true, true, true, true, true, true, true, true, true, true, true, true, true, true, true, true, true, true, true, false] rfl rfl (any_of HT_.out (by kernel_rfl)) (h := ?_)
           refine last_ (i := 25) (N := none) #[true, true, true, true, true, true, true, true, true, true, true, true, true, true, true, true, true, true, true, true, true, true, true, true, true, true] rfl rfl (one_of HT_.out (by kernel_rfl)) (by decide) (fun K hK => ?_)
           refine skip_ (w1 := ?_) (by rfl) rfl ?_ ?_
           rotate_left
           ·go_simp
            rfl
           refine hK.out _ _ ?_
           clear hK K
           refine done_ (done_of HT_.out (by kernel_rfl)) ?_
           try go_wp2
           go_roundg k1
           case measure => have := HK1.out; omega
           case rel => exact ⟨(y154), (wrap64 (x8_1 + 1)), es_, H', ⟨by have := HK1.out; omega⟩, ⟨by (with_reducible repeat (first | apply Kd.R_alloc | apply Kd.R_drewN | apply Kd.R_drew)); exact Kd.R_mono (Kd.R_far (p := ⟨go27, (x8_1 : Int).toNat, none⟩) (Kd.R_mono HO_5.out (fun k_ hk => (⟨hk, fun e_ => hk.2.2 (by rw [e_]; rfl)⟩ : _ ∧ k_ ≠ go27))) (fun _ hk => hk.2) (.int .i64 (Int.tmod (wrap64 ((wrap64 ((Int.tmod (rd t144 x8_1) (wrap64 ((rd t141 x8_1) + 1))) + (rd t141 x8_1))) + 1)) (wrap64 ((rd t141 x8_1) + 1))))) (fun _ hk => ⟨hk.1.1, ⟨hk.1.2.1, hk.1.2.2⟩⟩)⟩, ⟨by (with_reducible repeat (first | apply Kd.R_alloc | apply Kd.R_drewN | apply Kd.R_drew)); exact Kd.R_mono (Kd.R_far (p := ⟨go27, (x8_1 : Int).toNat, none⟩) (Kd.R_mono HO_6.out (fun k_ hk => (⟨hk, fun e_ => hk.2.2 (by rw [e_]; rfl)⟩ : _ ∧ k_ ≠ go27))) (fun _ hk => hk.2) (.int .i64 (Int.tmod (wrap64 ((wrap64 ((Int.tmod (rd t144 x8_1) (wrap64 ((rd t141 x8_1) + 1))) + (rd t141 x8_1))) + 1)) (wrap64 ((rd t141 x8_1) + 1))))) (fun _ hk => ⟨hk.1.1, ⟨hk.1.2.1, hk.1.2.2⟩⟩)⟩, ⟨rw_ HQ30.out⟩, ⟨by (with_reducible repeat (first | refine blk_drewN ?_ _ | refine blk_drew ?_ | refine blk_alloc ?_ _)); refine blk_far ?_ (by have h_ := Kd.R_ne HO_7.out BK137.out (by decide); intro e_; exact h_ (by rw [e_]; rfl)) _; (with_reducible repeat (first | refine blk_drewN ?_ _ | refine blk_drew ?_ | refine blk_alloc ?_ _)); exact BK137.out⟩, ⟨by (with_reducible repeat (first | refine blk_drewN ?_ _ | refine blk_drew ?_ | refine blk_alloc ?_ _)); refine blk_far ?_ (by have h_ := Kd.R_ne HO_7.out BK138.out (by decide); intro e_; exact h_ (by rw [e_]; rfl)) _; (with_reducible repeat (first | refine blk_drewN ?_ _ | refine blk_drew ?_ | refine blk_alloc ?_ _)); exact BK138.out⟩, ⟨by (with_reducible repeat (first | refine blk_drewN ?_ _ | refine blk_drew ?_ | refine blk_alloc ?_ _)); refine blk_far ?_ (by have h_ := Kd.R_ne HO_7.out BK139.out (by decide); intro e_; exact h_ (by rw [e_]; rfl)) _; (with_reducible repeat (first | refine blk_drewN ?_ _ | refine blk_drew ?_ | refine blk_alloc ?_ _)); exact BK139.out⟩, ⟨by repeat (first | (with_reducible first | exact HB.out | apply below_alloc | apply pw_below_drewN | apply below_drew1 | refine below_set ?_ GB27.out | refine below_set ?_ GE137.out | refine below_set ?_ GE138.out | refine below_set ?_ GE139.out) | exact HB.out)⟩⟩
          ·rw [if_neg c26] at H
           exact absurd H (by simp)
        ·rw [if_neg c24] at H
         exact absurd H (by simp)
       ·rw [if_neg c23] at H
        have c23b0 : decide (x8_1 < (t144.length : Int)) = false := decide_eq_false c23
        clear c23
        have H' := Aside0.mk H
        clear H
        obtain ⟨Ao31, co31, eo31⟩ := Kd.R_slice HO_6.out
        subst eo31
        go_wp2
        go_roundg k1
        case measure => have := HK1.out; omega
        case rel => exact ⟨(x7_1), (wrap64 (x8_1 + 1)), es_, H', ⟨by have := HK1.out; omega⟩, ⟨rw_ HO_5.out⟩, ⟨rw_ HO_6.out⟩, ⟨rw_ HO_7.out⟩, ⟨bw_ BK137.out⟩, ⟨bw_ BK138.out⟩, ⟨bw_ BK139.out⟩, ⟨hb_ HB⟩⟩
      ·rw [if_neg c22] at H
       have c22b0 : decide (x8_1 < (t141.length : Int)) = false := decide_eq_false c22
       clear c22
       replace H := Option.bind_eq_some_iff.mp H
       obtain ⟨⟨t155, t156⟩, A320, H⟩ := H
       replace H : (some (t155, t156)) = some (r1, r2) := H
       have A32 := Aside0.mk A320
       clear A320
       simp only [Option.some.injEq, Prod.mk.injEq] at H
       obtain ⟨rfl, rfl⟩ := H
       obtain ⟨Ao33, co33, eo33⟩ := Kd.R_slice HO_7.out
       subst eo33
       go_wp2_with (first | ((with_reducible refine gate_callee (f := 76) rfl ?_); refine ge_ (some 56) rfl rfl Try.func76 (by kernel_rfl) rfl #[.slice Ao33 x7_1.length co33] rfl (h := ?_); (with_reducible refine (calamusref32_made.calls (fun k_ => some k_ = (.slice Ao33 x7_1.length co33 : Value).ownBlock) _ _ x7_1 t155 t156 _ ?side1 A32.out).mono ?_); (case side1 => exact Kd.R_V (Kd.R_tight rfl (Kd.R_types (Kd.R_types (Kd.R_types (HO_7.out) BK137.out (by decide)) BK138.out (by decide)) BK139.out (by decide)))); rintro e w34 ⟨v157, rfl, ho0, hb⟩; refine ⟨_, rfl, ?_⟩; have HO158 := Aside0.mk (Kd.V_lower (Kd.V_mono (ok' := fun k_ => (w.heap.size ≤ k_) ∧ some k_ ≠ (.slice Ao19 t141.length co19 : Value).ownBlock ∧ some k_ ≠ (v145 : Value).ownBlock ∧ k_ ≠ gb137 ∧ k_ ≠ gb138 ∧ k_ ≠ gb139) ho0 (fun k_ hk_ => ⟨Or.elim hk_ (fun hs_ => ((Kd.R_types (Kd.R_types (Kd.R_types (HO_7.out) BK137.out (by decide)) BK138.out (by decide)) BK139.out (by decide)).1 k_ hs_.symm).1.1.1.1) (fun hn_ => (Nat.le_trans (below_size (hb_ HB)) hn_)), Or.elim hk_ (fun hs_ => ((Kd.R_types (Kd.R_types (Kd.R_types (HO_7.out) BK137.out (by decide)) BK138.out (by decide)) BK139.out (by decide)).1 k_ hs_.symm).1.1.1.2.1) (fun hn_ => (Kd.fresh' (Kd.R_lt (rw_ HO_5.out)) k_ hn_)), Or.elim hk_ (fun hs_ => ((Kd.R_types (Kd.R_types (Kd.R_types (HO_7.out) BK137.out (by decide)) BK138.out (by decide)) BK139.out (by decide)).1 k_ hs_.symm).1.1.1.2.2) (fun hn_ => (Kd.fresh' (Kd.R_lt (rw_ HO_6.out)) k_ hn_)), Or.elim hk_ (fun hs_ => ((Kd.R_types (Kd.R_types (Kd.R_types (HO_7.out) BK137.out (by decide)) BK138.out (by decide)) BK139.out (by decide)).1 k_ hs_.symm).1.1.2) (fun hn_ => (Kd.freshB (g := gb137) (o := .cells #[.int .i64 a0_0, .slice A0_1 l0_1.length c0_1] 57 (0, 0)) (bw_ BK137.out) k_ hn_)), Or.elim hk_ (fun hs_ => ((Kd.R_types (Kd.R_types (Kd.R_types (HO_7.out) BK137.out (by decide)) BK138.out (by decide)) BK139.out (by decide)).1 k_ hs_.symm).1.2) (fun hn_ => (Kd.freshB (g := gb138) (o := .cells #[.int .i64 a1_0, .slice A1_1 l1_1.length c1_1] 57 (0, 0)) (bw_ BK138.out) k_ hn_)), Or.elim hk_ (fun hs_ => ((Kd.R_types (Kd.R_types (Kd.R_types (HO_7.out) BK137.out (by decide)) BK138.out (by decide)) BK139.out (by decide)).1 k_ hs_.symm).2) (fun hn_ => (Kd.freshB (g := gb139) (o := .cells #[.int .i64 0, .slice none 0 0] 57 (0, 0)) (bw_ BK139.out) k_ hn_))⟩)) (below_size (hb_ HB))); replace HO_5 := Aside0.mk (Kd.R_below (rw_ HO_5.out) hb); replace HO_6 := Aside0.mk (Kd.R_below (rw_ HO_6.out) hb); replace HO_7 := Aside0.mk (Kd.R_below (rw_ HO_7.out) hb); replace BK137 := bb_ BK137 hb; replace BK138 := bb_ BK138 hb; replace BK139 := bb_ BK139 hb; replace HB := bs_ HB hb; (try clear hb); (try clear hb2); (try clear hk); (try clear hi); (try clear ho0); have hnb35 := NB139_137.out; have hnc35 := NB137_139.out; have hnb36 := NB139_138.out; have hnc36 := NB138_139.out; obtain ⟨hcz37_0, hcz37_1, hfz37_0, hfz37_1⟩ := bc2_ BK139; obtain ⟨Ao38, co38, eo38⟩ := Kd.V_slice HO158.out; subst eo38))
       refine bodyPost_ret (results_cell_row rfl _ _ gb139 57 #[.int .i64 t155, .slice Ao38 t156.length co38] (0, 0) _ rfl (bp_ BK139.out) Try.underlying57 rfl (by kernel_rfl)) rfl ?_
       exact ⟨_, er_, by (with_reducible repeat (first | apply Kd.V_alloc | apply Kd.V_drewN | apply Kd.V_drew)); exact Kd.V_mono (vf_ (Kd.V_mono HO158.out (fun k_ hk => (⟨hk, hk.2.2.2.2.2⟩ : _ ∧ k_ ≠ gb139))) (fun _ hk => hk.2)) (fun _ hk => hk.1.1), hb_ HB⟩
   ·rw [if_neg c8] at H
    exact absurd H (by simp)
  ·rw [if_neg c7] at H
   exact absurd H (by simp)
 ·replace c4 := Bool.eq_false_iff.mpr c4
  subst c4
  have H1 : (some (0, ([] : List Int))) = some (r1, r2) := by rw [if_neg (show ¬ (false = true) by decide)] at H; exact H
  clear H
  have H := H1
  clear H1
  simp only [Option.some.injEq, Prod.mk.injEq] at H
  obtain ⟨rfl, rfl⟩ := H
  go_enter Try.func53, Try.ntmps53
  go_wp2_with (first | ((with_reducible refine gate_dst (N := 2) rfl ?_); refine be_ (N := 2) (cs := #[.int .i64 a0_0, .slice A0_1 l0_1.length c0_1]) (t := 57) (h := ?_); intro gb137 hg w39 hbox hb; have BK137 := Aside0.mk (hbox); have GW137 := gw_ HB hg; have GE137 := gw_ HB hg; replace HB := bs_ HB hb; clear hb hbox hg) | ((with_reducible refine gate_dst (N := 3) rfl ?_); refine be_ (N := 3) (cs := #[.int .i64 a1_0, .slice A1_1 l1_1.length c1_1]) (t := 57) (h := ?_); intro gb138 hg w40 hbox hb; have BK138 := Aside0.mk (hbox); have GW138 := gw_ HB hg; have GE138 := gw_ HB hg; have NB137_138 := ne_ BK137 hg; have NB138_137 := en_ BK137 hg; replace BK137 := bb_ BK137 hb; replace HB := bs_ HB hb; clear hb hbox hg) | ((with_reducible refine gate_dst (N := 4) rfl ?_); refine be_ (N := 4) (cs := #[.int .i64 0, .slice none 0 0]) (t := 57) (h := ?_); intro gb139 hg w41 hbox hb; have BK139 := Aside0.mk (hbox); have GW139 := gw_ HB hg; have GE139 := gw_ HB hg; have NB137_139 := ne_ BK137 hg; have NB139_137 := en_ BK137 hg; have NB138_139 := ne_ BK138 hg; have NB139_138 := en_ BK138 hg; replace BK137 := bb_ BK137 hb; replace BK138 := bb_ BK138 hb; replace HB := bs_ HB hb; clear hb hbox hg; have hnb42 := NB137_138.out; have hnc42 := NB138_137.out; have hnb43 := NB137_139.out; have hnc43 := NB139_137.out; obtain ⟨hcz44_0, hcz44_1, hfz44_0, hfz44_1⟩ := bc2_ BK137) | ((with_reducible refine gate_callee (f := 74) rfl ?_); refine ge_ (some 10) rfl rfl Try.func74 (by kernel_rfl) rfl #[.agg #[.int .i64 a0_0, .slice A0_1 l0_1.length c0_1]] rfl (h := ?_); (with_reducible refine (calamusref32_right.calls k a0_0 _ _ l0_1 false _ ?side1 ?side2 A3.out).mono ?_); (case side1 => exact cw_ (Kd.C_below HR0_1.out HB.out)); (case side2 => exact HC0_1.out); rintro e w45 ⟨rfl, hb⟩; refine ⟨_, rfl, ?_⟩; replace BK137 := bb_ BK137 hb; replace BK138 := bb_ BK138 hb; replace BK139 := bb_ BK139 hb; replace HB := bs_ HB hb; (try clear hb); (try clear hb2); (try clear hk); (try clear hi); have hnb46 := NB139_138.out; have hnc46 := NB138_139.out; obtain ⟨hcz47_0, hcz47_1, hfz47_0, hfz47_1⟩ := bc2_ BK139))
  refine bodyPost_ret (results_cell_row rfl _ _ gb139 57 #[.int .i64 0, .slice none 0 0] (0, 0) _ rfl (bp_ BK139.out) Try.underlying57 rfl (by kernel_rfl)) rfl ?_
  exact ⟨_, er_, Kd.R_V (base := w.heap.size) (by first | exact Kd.R_nil _ _ _ _ _ | exact Kd.N_nil _ _ _ _ _ | exact Kd.V_nil _ _ _ _ _ | exact Kd.Q_nil _ _ _ _ _ | exact Kd.S_nil _ _ _ _ _), hb_ HB⟩

/-! ### calamusref32_Count: function 55 -/
def calamusref32_Count.l0 : Nat → Int → List Int → Int → Option (Int)
 | 0, _, _, _ => none
 | k + 1, x3, x4, x5 => if x5 < (x4.length : Int) then (if 0 ≤ x5 then (if (wrap64 (x3 * (wrap64 ((rd x4 x5) + 1)))) > 1073741824 then (calamusref32_Count.l0 k 1073741824 x4 (wrap64 (x5 + 1))) else (calamusref32_Count.l0 k (wrap64 (x3 * (wrap64 ((rd x4 x5) + 1)))) x4 (wrap64 (x5 + 1)))) else (none)) else (some x3)
def calamusref32_Count.f (k : Nat) (a0_0 : Int) (l0_1 : List Int) : Option (Int) := (calamusref32_right.f k a0_0 l0_1).bind fun t160 => (if t160 = true then ((calamusref32_flat.f a0_0 l0_1).bind fun t161 => (calamusref32_Count.l0 k 1 t161 0)) else (some 0))
theorem calamusref32_Count.mono_l : ∀ k, (∀ y0 y1 y2, LeO (calamusref32_Count.l0 k y0 y1 y2) (calamusref32_Count.l0 (k + 1) y0 y1 y2))
 | 0 => fun _ _ _ r h => by simp [calamusref32_Count.l0] at h
 | k + 1 => by
  have ih0 := calamusref32_Count.mono_l k
  ·intro y0 y1 y2
   unfold calamusref32_Count.l0
   repeat' first
   | (with_reducible exact ih0 _ _ _)
   | (with_reducible exact calamusref32_right.mono _ _ _)
   | (with_reducible exact LeO.refl _)
   | (with_reducible exact LeO.none _)
   | (with_reducible refine LeO.ite ?_ ?_)
   | (with_reducible refine LeO.bind ?_ (fun _ => ?_))
   | exact ih0 _ _ _
   | exact calamusref32_right.mono _ _ _
   | exact LeO.none _
   | refine LeO.ite ?_ ?_
   | refine LeO.bind ?_ (fun _ => ?_)
theorem calamusref32_Count.mono : ∀ a0 a1 k, LeO (calamusref32_Count.f k a0 a1) (calamusref32_Count.f (k + 1) a0 a1) := by
 intro a0 a1 k
 have ih0 := calamusref32_Count.mono_l k
 unfold calamusref32_Count.f
 repeat' first
   | (with_reducible exact ih0 _ _ _)
   | (with_reducible exact calamusref32_right.mono _ _ _)
   | (with_reducible exact LeO.refl _)
   | (with_reducible exact LeO.none _)
   | (with_reducible refine LeO.ite ?_ ?_)
   | (with_reducible refine LeO.bind ?_ (fun _ => ?_))
   | exact ih0 _ _ _
   | exact calamusref32_right.mono _ _ _
   | exact LeO.none _
   | refine LeO.ite ?_ ?_
   | refine LeO.bind ?_ (fun _ => ?_)
set_option maxHeartbeats 8000000 in
set_option maxRecDepth 100000 in
theorem calamusref32_Count.calls (k : Nat) (a0_0 : Int) (A0_1 : Option Addr) (c0_1 : Nat) (l0_1 : List Int) (r : Int) (w : World) (hr0_1 : Kd.C (Kd.int .i64) w A0_1 l0_1.length l0_1) (hc0_1 : l0_1.length ≤ c0_1) (h : calamusref32_Count.f k a0_0 l0_1 = some r) :
  Calls Try.prog 55 #[.agg #[.int .i64 a0_0, .slice A0_1 l0_1.length c0_1]] w fun e w' => e = .returned (.int .i64 r) ∧ Below w.heap.size w w' := by
 have hu57 := Try.underlying57
 have HR0_1 := Aside0.mk hr0_1
 have HC0_1 := Aside0.mk hc0_1
 clear hr0_1 hc0_1
 have HB := Aside0.mk (Below.refl w.heap.size w)
 have H : ((calamusref32_right.f k a0_0 l0_1).bind fun t160 => (if t160 = true then ((calamusref32_flat.f a0_0 l0_1).bind fun t161 => (calamusref32_Count.l0 k 1 t161 0)) else (some 0))) = some r := h
 clear h
 replace H := Option.bind_eq_some_iff.mp H
 obtain ⟨t160, A20, H⟩ := H
 replace H : (if t160 = true then ((calamusref32_flat.f a0_0 l0_1).bind fun t161 => (calamusref32_Count.l0 k 1 t161 0)) else (some 0)) = some r := H
 have A2 := Aside0.mk A20
 clear A20
 by_cases c3 : t160 = true
 ·subst c3
  have H1 : ((calamusref32_flat.f a0_0 l0_1).bind fun t161 => (calamusref32_Count.l0 k 1 t161 0)) = some r := by rw [if_pos rfl] at H; exact H
  clear H
  have H := H1
  clear H1
  replace H := Option.bind_eq_some_iff.mp H
  obtain ⟨t161, A40, H⟩ := H
  replace H : (calamusref32_Count.l0 k 1 t161 0) = some r := H
  have A4 := Aside0.mk A40
  clear A40
  have H' := Aside0.mk H
  clear H
  go_enter Try.func55, Try.ntmps55
  go_wp2_with (first | ((with_reducible refine gate_dst (N := 1) rfl ?_); refine be_ (N := 1) (cs := #[.int .i64 a0_0, .slice A0_1 l0_1.length c0_1]) (t := 57) (h := ?_); intro gb159 hg w5 hbox hb; have BK159 := Aside0.mk (hbox); have GW159 := gw_ HB hg; have GE159 := gw_ HB hg; replace HB := bs_ HB hb; clear hb hbox hg; obtain ⟨hcz6_0, hcz6_1, hfz6_0, hfz6_1⟩ := bc2_ BK159) | ((with_reducible refine gate_callee (f := 74) rfl ?_); refine ge_ (some 7) rfl rfl Try.func74 (by kernel_rfl) rfl #[.agg #[.int .i64 a0_0, .slice A0_1 l0_1.length c0_1]] rfl (h := ?_); (with_reducible refine (calamusref32_right.calls k a0_0 _ _ l0_1 true _ ?side1 ?side2 A2.out).mono ?_); (case side1 => exact cw_ (Kd.C_below HR0_1.out HB.out)); (case side2 => exact HC0_1.out); rintro e w7 ⟨rfl, hb⟩; refine ⟨_, rfl, ?_⟩; replace BK159 := bb_ BK159 hb; replace HB := bs_ HB hb; (try clear hb); (try clear hb2); (try clear hk); (try clear hi); obtain ⟨hcz8_0, hcz8_1, hfz8_0, hfz8_1⟩ := bc2_ BK159) | ((with_reducible refine gate_callee (f := 75) rfl ?_); refine ge_ (some 10) rfl rfl Try.func75 (by kernel_rfl) rfl #[.agg #[.int .i64 a0_0, .slice A0_1 l0_1.length c0_1]] rfl (h := ?_); (with_reducible refine (calamusref32_flat.calls a0_0 _ _ l0_1 t161 _ ?side1 ?side2 A4.out).mono ?_); (case side1 => exact cw_ (Kd.C_below HR0_1.out HB.out)); (case side2 => exact HC0_1.out); rintro e w9 ⟨v162, rfl, ho0, hb⟩; refine ⟨_, rfl, ?_⟩; have HO163 := Aside0.mk (Kd.R_lower ho0 (below_size (hb_ HB))); replace BK159 := bb_ BK159 hb; replace HB := bs_ HB hb; (try clear hb); (try clear hb2); (try clear hk); (try clear hi); (try clear ho0)))
  go_loopg [3, 5] k (fun kq v3 v5 w' => ∃ (x3_1 : Int) (x5_1 : Int), v3 = .int .i64 x3_1 ∧ v5 = .int .i64 x5_1 ∧ Aside0 (calamusref32_Count.l0 kq x3_1 t161 x5_1 = some r) ∧ Aside0 (kq ≤ k) ∧ Aside0 (Kd.R (Kd.int .i64) 3 w' w.heap.size (fun _ => True) v162 t161) ∧ Aside0 (w'.heap[gb159]? = some (.cells #[.int .i64 a0_0, (.slice A0_1 l0_1.length c0_1)] 57 (0, 0))) ∧ Aside0 (Below w.heap.size w w'))
  case atStart => exact ⟨(1), (0), es_, es_, H', ⟨Nat.le_refl _⟩, ⟨rw_ HO163.out⟩, ⟨bw_ BK159.out⟩, ⟨hb_ HB⟩⟩
  case round =>
   clear H'
   try clear c3
   try clear hcz6_0
   try clear hcz6_1
   try clear hcz8_0
   try clear hcz8_1
   try clear hfz6_0
   try clear hfz6_1
   try clear hfz8_0
   try clear hfz8_1
   obtain ⟨x3_1, x5_1, rfl, rfl, HA, HK1, HO_4, BK159, HB⟩ := hrel
   cases gk with
   | zero => exact absurd HA.out (by simp [calamusref32_Count.l0])
   | succ k1 =>
    have H := HA.out
    clear HA
    simp only [calamusref32_Count.l0] at H
    by_cases c10 : x5_1 < (t161.length : Int)
    ·rw [if_pos c10] at H
     have c10b0 : decide (x5_1 < (t161.length : Int)) = true := decide_eq_true c10
     clear c10
     by_cases c11 : 0 ≤ x5_1
     ·rw [if_pos c11] at H
      have c11b0 : decide (0 ≤ x5_1) = true := decide_eq_true c11
      clear c11
      by_cases c12 : (wrap64 (x3_1 * (wrap64 ((rd t161 x5_1) + 1)))) > 1073741824
      ·rw [if_pos c12] at H
       have c12b0 : decide (1073741824 < (wrap64 (x3_1 * (wrap64 ((rd t161 x5_1) + 1))))) = true := decide_eq_true c12
       clear c12
       have H' := Aside0.mk H
       clear H
       obtain ⟨Ao13, co13, eo13⟩ := Kd.R_slice HO_4.out
       subst eo13
       have p164 : 0 ≤ (x5_1 : Int) := of_decide_eq_true as_
       have q164 : x5_1 < (t161.length : Int) := of_decide_eq_true as_
       obtain ⟨ad164, e164, hx164_0⟩ := Kd.at_int (Kd.R_reads' HO_4.out).2.2 x5_1 p164 q164
       cases e164
       replace p164 := eq_true p164
       replace q164 := eq_true q164
       go_wp2
       go_roundg k1
       case measure => have := HK1.out; omega
       case rel => exact ⟨(1073741824), (wrap64 (x5_1 + 1)), es_, es_, H', ⟨by have := HK1.out; omega⟩, ⟨rw_ HO_4.out⟩, ⟨bw_ BK159.out⟩, ⟨hb_ HB⟩⟩
      ·rw [if_neg c12] at H
       have c12b0 : decide (1073741824 < (wrap64 (x3_1 * (wrap64 ((rd t161 x5_1) + 1))))) = false := decide_eq_false c12
       clear c12
       have H' := Aside0.mk H
       clear H
       obtain ⟨Ao14, co14, eo14⟩ := Kd.R_slice HO_4.out
       subst eo14
       have p164 : 0 ≤ (x5_1 : Int) := of_decide_eq_true as_
       have q164 : x5_1 < (t161.length : Int) := of_decide_eq_true as_
       obtain ⟨ad164, e164, hx164_0⟩ := Kd.at_int (Kd.R_reads' HO_4.out).2.2 x5_1 p164 q164
       cases e164
       replace p164 := eq_true p164
       replace q164 := eq_true q164
       go_wp2
       go_roundg k1
       case measure => have := HK1.out; omega
       case rel => exact ⟨(wrap64 (x3_1 * (wrap64 ((rd t161 x5_1) + 1)))), (wrap64 (x5_1 + 1)), es_, es_, H', ⟨by have := HK1.out; omega⟩, ⟨rw_ HO_4.out⟩, ⟨bw_ BK159.out⟩, ⟨hb_ HB⟩⟩
     ·rw [if_neg c11] at H
      exact absurd H (by simp)
    ·rw [if_neg c10] at H
     have c10b0 : decide (x5_1 < (t161.length : Int)) = false := decide_eq_false c10
     clear c10
     obtain rfl := Option.some.inj H
     obtain ⟨Ao15, co15, eo15⟩ := Kd.R_slice HO_4.out
     subst eo15
     go_wp2
     go_ret
     exact ⟨er_, hb_ HB⟩
 ·replace c3 := Bool.eq_false_iff.mpr c3
  subst c3
  have H1 : (some 0) = some r := by rw [if_neg (show ¬ (false = true) by decide)] at H; exact H
  clear H
  have H := H1
  clear H1
  obtain rfl := Option.some.inj H
  go_enter Try.func55, Try.ntmps55
  go_wp2_with (first | ((with_reducible refine gate_dst (N := 1) rfl ?_); refine be_ (N := 1) (cs := #[.int .i64 a0_0, .slice A0_1 l0_1.length c0_1]) (t := 57) (h := ?_); intro gb159 hg w16 hbox hb; have BK159 := Aside0.mk (hbox); have GW159 := gw_ HB hg; have GE159 := gw_ HB hg; replace HB := bs_ HB hb; clear hb hbox hg; obtain ⟨hcz17_0, hcz17_1, hfz17_0, hfz17_1⟩ := bc2_ BK159) | ((with_reducible refine gate_callee (f := 74) rfl ?_); refine ge_ (some 7) rfl rfl Try.func74 (by kernel_rfl) rfl #[.agg #[.int .i64 a0_0, .slice A0_1 l0_1.length c0_1]] rfl (h := ?_); (with_reducible refine (calamusref32_right.calls k a0_0 _ _ l0_1 false _ ?side1 ?side2 A2.out).mono ?_); (case side1 => exact cw_ (Kd.C_below HR0_1.out HB.out)); (case side2 => exact HC0_1.out); rintro e w18 ⟨rfl, hb⟩; refine ⟨_, rfl, ?_⟩; replace BK159 := bb_ BK159 hb; replace HB := bs_ HB hb; (try clear hb); (try clear hb2); (try clear hk); (try clear hi)))
  go_ret
  exact ⟨er_, hb_ HB⟩

end Go.Proofs.Ytjobaaolohemgaa.PFallChoices
