/- Of the law calamus/calamuslaw32.FallChoices: each function as a plain Lean function, with a proof that the call comes to it; the row. By wip/tpl/own_print.py. Conditions: none but the row's own. -/
import Derived.Test.YtjobaaolohemgaaOFallChoicesx0
import Derived.Test.YtjobaaolohemgaaOFallChoicesx2
import Derived.Test.YtjobaaolohemgaaOFallChoicesx3
namespace Go.Proofs.Ytjobaaolohemgaa.PFallChoices
open Go.RowKit Go.Proofs.YtjobaaolohemgaaW.PrintWords Go.Proofs.YtjobaaolohemgaaW.PrintLast Go.Proofs.YtjobaaolohemgaaW.PrintMore
attribute [local go_sem] max2_int min2_int max_two min_two max_three min_three max_four min_four   -- for this text's walks alone
set_option linter.unusedVariables false
set_option linter.unusedSimpArgs false

/-! ### calamusref32_Nth: function 57 -/
def calamusref32_Nth.l0 : Nat → Int → List Int → List Int → Int → Option (Int × List Int)
 | 0, _, _, _, _ => none
 | k + 1, x1, x6, x7, x8 => if x8 < (x6.length : Int) then (if 0 ≤ x8 then (if (wrap64 ((rd x6 x8) + 1)) = 0 then (none) else (if x8 < (x7.length : Int) then (calamusref32_Nth.l0 k (wrap64 (Int.tdiv x1 (wrap64 ((rd x6 x8) + 1)))) x6 (x7.set (x8 : Int).toNat (wrap64 (x1 - (wrap64 ((wrap64 (Int.tdiv x1 (wrap64 ((rd x6 x8) + 1)))) * (wrap64 ((rd x6 x8) + 1))))))) (wrap64 (x8 + 1))) else (none))) else (none)) else ((calamusref32_made.f x7).bind fun bt179 => (some (bt179.1, bt179.2)))
def calamusref32_Nth.f (k : Nat) (a0_0 : Int) (l0_1 : List Int) (a1 : Int) : Option (Int × List Int) := (calamusref32_right.f k a0_0 l0_1).bind fun t167 => (if t167 = true then ((calamusref32_Count.f k a0_0 l0_1).bind fun t168 => (if t168 = 0 then (none) else ((calamusref32_flat.f a0_0 l0_1).bind fun t169 => (if 0 ≤ (t169.length : Int) then (if ((t169.length : Int) : Int).toNat ≤ 35184372088832 then (calamusref32_Nth.l0 k (Int.tmod (wrap64 ((Int.tmod a1 t168) + t168)) t168) t169 (List.replicate ((t169.length : Int) : Int).toNat 0) 0) else (none)) else (none))))) else (some (0, ([] : List Int))))
theorem calamusref32_Nth.mono_l : ∀ k, (∀ y0 y1 y2 y3, LeO (calamusref32_Nth.l0 k y0 y1 y2 y3) (calamusref32_Nth.l0 (k + 1) y0 y1 y2 y3))
 | 0 => fun _ _ _ _ r h => by simp [calamusref32_Nth.l0] at h
 | k + 1 => by
  have ih0 := calamusref32_Nth.mono_l k
  ·intro y0 y1 y2 y3
   unfold calamusref32_Nth.l0
   repeat' first
   | (with_reducible exact ih0 _ _ _ _)
   | (with_reducible exact calamusref32_Count.mono _ _ _)
   | (with_reducible exact calamusref32_right.mono _ _ _)
   | (with_reducible exact LeO.refl _)
   | (with_reducible exact LeO.none _)
   | (with_reducible refine LeO.ite ?_ ?_)
   | (with_reducible refine LeO.bind ?_ (fun _ => ?_))
   | exact ih0 _ _ _ _
   | exact calamusref32_Count.mono _ _ _
   | exact calamusref32_right.mono _ _ _
   | exact LeO.none _
   | refine LeO.ite ?_ ?_
   | refine LeO.bind ?_ (fun _ => ?_)
theorem calamusref32_Nth.mono : ∀ a0 a1 a2 k, LeO (calamusref32_Nth.f k a0 a1 a2) (calamusref32_Nth.f (k + 1) a0 a1 a2) := by
 intro a0 a1 a2 k
 have ih0 := calamusref32_Nth.mono_l k
 unfold calamusref32_Nth.f
 repeat' first
   | (with_reducible exact ih0 _ _ _ _)
   | (with_reducible exact calamusref32_Count.mono _ _ _)
   | (with_reducible exact calamusref32_right.mono _ _ _)
   | (with_reducible exact LeO.refl _)
   | (with_reducible exact LeO.none _)
   | (with_reducible refine LeO.ite ?_ ?_)
   | (with_reducible refine LeO.bind ?_ (fun _ => ?_))
   | exact ih0 _ _ _ _
   | exact calamusref32_Count.mono _ _ _
   | exact calamusref32_right.mono _ _ _
   | exact LeO.none _
   | refine LeO.ite ?_ ?_
   | refine LeO.bind ?_ (fun _ => ?_)
def calamusref32_Nth.T10 : Bool × List (List Nat × List Nat) := (true, [([], []), ([], []), ([], []), ([], []), ([], []), ([], []), ([4, 5], [4, 5]), ([6], [6]), ([7], [7]), ([3, 8], [3, 8]), ([], []), ([], []), ([10, 11], [10, 11]), ([12], [12]), ([13], [13]), ([9, 14], [9, 14]), ([2, 15], [2, 15]), ([0, 1, 0, 1, 2, 3, 4, 5, 6, 7, 8, 9, 10, 11, 12, 13, 14, 15, 16], [0, 1]), ([17, 16, 0, 1, 2, 3, 4, 5, 6, 7, 8, 9, 10, 11, 12, 13, 14, 15, 16], [16, 17])])
def calamusref32_Nth.B10 : List Nat := [0, 0, 0, 0, 0, 0, 48, 112, 240, 504, 0, 0, 3072, 7168, 15360, 32760, 65532, 131071, 262143]
theorem calamusref32_Nth.tab10 : rtab .any (opsOf Try.f57 10) = calamusref32_Nth.T10 := by kernel_rfl
theorem calamusref32_Nth.bits10 : waitsOk calamusref32_Nth.T10.2 calamusref32_Nth.B10 = true := by kernel_rfl
set_option maxHeartbeats 8000000 in
set_option maxRecDepth 100000 in
theorem calamusref32_Nth.calls (k : Nat) (a0_0 : Int) (A0_1 : Option Addr) (c0_1 : Nat) (l0_1 : List Int) (a1 : Int) (r1 : Int) (r2 : List Int) (w : World) (hr0_1 : Kd.C (Kd.int .i64) w A0_1 l0_1.length l0_1) (hc0_1 : l0_1.length ≤ c0_1) (h : calamusref32_Nth.f k a0_0 l0_1 a1 = some (r1, r2)) :
  Calls Try.prog 57 #[.agg #[.int .i64 a0_0, .slice A0_1 l0_1.length c0_1], .int .i64 a1] w fun e w' => ∃ v1_ : Value, e = .returned (.agg #[.int .i64 r1, v1_]) ∧ Kd.V (Kd.int .i64) 3 w' w.heap.size (fun k_ => (w.heap.size ≤ k_)) v1_ r2 ∧ Below w.heap.size w w' := by
 have hu57 := Try.underlying57
 have HR0_1 := Aside0.mk hr0_1
 have HC0_1 := Aside0.mk hc0_1
 clear hr0_1 hc0_1
 have HB := Aside0.mk (Below.refl w.heap.size w)
 have H : ((calamusref32_right.f k a0_0 l0_1).bind fun t167 => (if t167 = true then ((calamusref32_Count.f k a0_0 l0_1).bind fun t168 => (if t168 = 0 then (none) else ((calamusref32_flat.f a0_0 l0_1).bind fun t169 => (if 0 ≤ (t169.length : Int) then (if ((t169.length : Int) : Int).toNat ≤ 35184372088832 then (calamusref32_Nth.l0 k (Int.tmod (wrap64 ((Int.tmod a1 t168) + t168)) t168) t169 (List.replicate ((t169.length : Int) : Int).toNat 0) 0) else (none)) else (none))))) else (some (0, ([] : List Int))))) = some (r1, r2) := h
 clear h
 replace H := Option.bind_eq_some_iff.mp H
 obtain ⟨t167, A30, H⟩ := H
 replace H : (if t167 = true then ((calamusref32_Count.f k a0_0 l0_1).bind fun t168 => (if t168 = 0 then (none) else ((calamusref32_flat.f a0_0 l0_1).bind fun t169 => (if 0 ≤ (t169.length : Int) then (if ((t169.length : Int) : Int).toNat ≤ 35184372088832 then (calamusref32_Nth.l0 k (Int.tmod (wrap64 ((Int.tmod a1 t168) + t168)) t168) t169 (List.replicate ((t169.length : Int) : Int).toNat 0) 0) else (none)) else (none))))) else (some (0, ([] : List Int)))) = some (r1, r2) := H
 have A3 := Aside0.mk A30
 clear A30
 by_cases c4 : t167 = true
 ·subst c4
  have H1 : ((calamusref32_Count.f k a0_0 l0_1).bind fun t168 => (if t168 = 0 then (none) else ((calamusref32_flat.f a0_0 l0_1).bind fun t169 => (if 0 ≤ (t169.length : Int) then (if ((t169.length : Int) : Int).toNat ≤ 35184372088832 then (calamusref32_Nth.l0 k (Int.tmod (wrap64 ((Int.tmod a1 t168) + t168)) t168) t169 (List.replicate ((t169.length : Int) : Int).toNat 0) 0) else (none)) else (none))))) = some (r1, r2) := by rw [if_pos rfl] at H; exact H
  clear H
  have H := H1
  clear H1
  replace H := Option.bind_eq_some_iff.mp H
  obtain ⟨t168, A50, H⟩ := H
  replace H : (if t168 = 0 then (none) else ((calamusref32_flat.f a0_0 l0_1).bind fun t169 => (if 0 ≤ (t169.length : Int) then (if ((t169.length : Int) : Int).toNat ≤ 35184372088832 then (calamusref32_Nth.l0 k (Int.tmod (wrap64 ((Int.tmod a1 t168) + t168)) t168) t169 (List.replicate ((t169.length : Int) : Int).toNat 0) 0) else (none)) else (none)))) = some (r1, r2) := H
  have A5 := Aside0.mk A50
  clear A50
  by_cases c6 : t168 = 0
  ·rw [if_pos c6] at H
   exact absurd H (by simp)
  ·rw [if_neg c6] at H
   have c6b0 : (t168 == 0) = false := beq_eq_false_iff_ne.mpr c6
   have c6b1 : (t168 != 0) = true := bne_iff_ne.mpr c6
   replace H := Option.bind_eq_some_iff.mp H
   obtain ⟨t169, A70, H⟩ := H
   replace H : (if 0 ≤ (t169.length : Int) then (if ((t169.length : Int) : Int).toNat ≤ 35184372088832 then (calamusref32_Nth.l0 k (Int.tmod (wrap64 ((Int.tmod a1 t168) + t168)) t168) t169 (List.replicate ((t169.length : Int) : Int).toNat 0) 0) else (none)) else (none)) = some (r1, r2) := H
   have A7 := Aside0.mk A70
   clear A70
   by_cases c8 : 0 ≤ (t169.length : Int)
   ·rw [if_pos c8] at H
    have c8b0 := eq_true c8
    have c8b1 : decide (0 ≤ (t169.length : Int)) = true := decide_eq_true c8
    clear c8
    by_cases c9 : ((t169.length : Int) : Int).toNat ≤ 35184372088832
    ·rw [if_pos c9] at H
     have c9b0 := eq_true c9
     have c9b1 : decide (((t169.length : Int) : Int).toNat ≤ 35184372088832) = true := decide_eq_true c9
     clear c9
     obtain ⟨y172, hy172⟩ : ∃ y_ : List Int, y_ = (List.replicate ((t169.length : Int) : Int).toNat 0) := ⟨_, rfl⟩
     replace H : (calamusref32_Nth.l0 k (Int.tmod (wrap64 ((Int.tmod a1 t168) + t168)) t168) t169 y172 0) = some (r1, r2) := th_ H hy172
     have Ny172 := Aside0.mk hy172
     clear hy172
     have H' := Aside0.mk H
     clear H
     go_enter Try.func57, Try.ntmps57
     go_wp2_with (first | ((with_reducible refine gate_dst (N := 2) rfl ?_); refine be_ (N := 2) (cs := #[.int .i64 a0_0, .slice A0_1 l0_1.length c0_1]) (t := 57) (h := ?_); intro gb165 hg w10 hbox hb; have BK165 := Aside0.mk (hbox); have GW165 := gw_ HB hg; have GE165 := gw_ HB hg; replace HB := bs_ HB hb; clear hb hbox hg) | ((with_reducible refine gate_dst (N := 4) rfl ?_); refine be_ (N := 4) (cs := #[.int .i64 0, .slice none 0 0]) (t := 57) (h := ?_); intro gb166 hg w11 hbox hb; have BK166 := Aside0.mk (hbox); have GW166 := gw_ HB hg; have GE166 := gw_ HB hg; have NB165_166 := ne_ BK165 hg; have NB166_165 := en_ BK165 hg; replace BK165 := bb_ BK165 hb; replace HB := bs_ HB hb; clear hb hbox hg; have hnb12 := NB165_166.out; have hnc12 := NB166_165.out; obtain ⟨hcz13_0, hcz13_1, hfz13_0, hfz13_1⟩ := bc2_ BK165) | ((with_reducible refine gate_callee (f := 74) rfl ?_); refine ge_ (some 10) rfl rfl Try.func74 (by kernel_rfl) rfl #[.agg #[.int .i64 a0_0, .slice A0_1 l0_1.length c0_1]] rfl (h := ?_); (with_reducible refine (calamusref32_right.calls k a0_0 _ _ l0_1 true _ ?side1 ?side2 A3.out).mono ?_); (case side1 => exact cw_ (Kd.C_below HR0_1.out HB.out)); (case side2 => exact HC0_1.out); rintro e w14 ⟨rfl, hb⟩; refine ⟨_, rfl, ?_⟩; replace BK165 := bb_ BK165 hb; replace BK166 := bb_ BK166 hb; replace HB := bs_ HB hb; (try clear hb); (try clear hb2); (try clear hk); (try clear hi); obtain ⟨hcz15_0, hcz15_1, hfz15_0, hfz15_1⟩ := bc2_ BK165) | ((with_reducible refine gate_callee (f := 55) rfl ?_); refine ge_ (some 14) rfl rfl Try.func55 (by kernel_rfl) rfl #[.agg #[.int .i64 a0_0, .slice A0_1 l0_1.length c0_1]] rfl (h := ?_); (with_reducible refine (calamusref32_Count.calls k a0_0 _ _ l0_1 t168 _ ?side1 ?side2 A5.out).mono ?_); (case side1 => exact cw_ (Kd.C_below HR0_1.out HB.out)); (case side2 => exact HC0_1.out); rintro e w16 ⟨rfl, hb⟩; refine ⟨_, rfl, ?_⟩; replace BK165 := bb_ BK165 hb; replace BK166 := bb_ BK166 hb; replace HB := bs_ HB hb; (try clear hb); (try clear hb2); (try clear hk); (try clear hi); obtain ⟨hcz17_0, hcz17_1, hfz17_0, hfz17_1⟩ := bc2_ BK165) | ((with_reducible refine gate_callee (f := 75) rfl ?_); refine ge_ (some 23) rfl rfl Try.func75 (by kernel_rfl) rfl #[.agg #[.int .i64 a0_0, .slice A0_1 l0_1.length c0_1]] rfl (h := ?_); (with_reducible refine (calamusref32_flat.calls a0_0 _ _ l0_1 t169 _ ?side1 ?side2 A7.out).mono ?_); (case side1 => exact cw_ (Kd.C_below HR0_1.out HB.out)); (case side2 => exact HC0_1.out); rintro e w18 ⟨v170, rfl, ho0, hb⟩; refine ⟨_, rfl, ?_⟩; have HO171 := Aside0.mk (Kd.R_lower (Kd.R_newM (M := fun k_ => (w.heap.size ≤ k_)) ho0 (below_size (hb_ HB)) (fun k_ h_ => h_)) (below_size (hb_ HB))); replace BK165 := bb_ BK165 hb; replace BK166 := bb_ BK166 hb; replace HB := bs_ HB hb; (try clear hb); (try clear hb2); (try clear hk); (try clear hi); (try clear ho0); obtain ⟨Ao19, co19, eo19⟩ := Kd.R_slice HO171.out; subst eo19) | ((with_reducible refine gate_dst (N := 26) rfl ?_); refine Kd.R_make (Kd.int .i64) _ 3 rfl (N := 26) rfl 22 _ _ rfl (t169.length : Int) rfl rfl Try.underlying22 (.int .i64 0) 8 info3 rfl (by decide) (by omega) 0 (ok := fun _ => True) (okp := fun _ => True) rfl (fun _ hk => hk) trivial (of_decide_eq_true as_) (Nat.le_trans (Nat.mul_le_mul_right _ (of_decide_eq_true as_ : (t169.length : Int).toNat ≤ 35184372088832)) (by omega)) (Below.refl _ _) (Nat.le_refl _) ?_; intro v173 w20 ho21 hb hg_ hnew_; clear hg_ hnew_; (first | rw [← Ny172.out] at ho21 | (simp only [Int.reduceToNat] at ho21; rw [← Ny172.out] at ho21)); have HO174 := Aside0.mk (Kd.R_lower (Kd.R_new' (Kd.R_newM (M := fun k_ => (w.heap.size ≤ k_)) ho21 (below_size (hb_ HB)) (fun k_ h_ => h_)) (Kd.R_lt (rw_ HO171.out))) (below_size (hb_ HB))); replace HO171 := Aside0.mk (Kd.R_elder' (rw_ HO171.out) (Kd.R_base ho21) hb); replace BK165 := bb_ BK165 hb; replace BK166 := bb_ BK166 hb; replace HB := bs_ HB hb; clear hb ho21))
     go_loopg [1, 8] k (fun kq v1 v8 w' => ∃ (x1_1 : Int) (x7_1 : List Int) (x8_1 : Int), v1 = .int .i64 x1_1 ∧ v8 = .int .i64 x8_1 ∧ Aside0 (calamusref32_Nth.l0 kq x1_1 t169 x7_1 x8_1 = some (r1, r2)) ∧ Aside0 (kq ≤ k) ∧ Aside0 (Kd.R (Kd.int .i64) 3 w' w.heap.size (fun k_ => (w.heap.size ≤ k_) ∧ some k_ ≠ (v173 : Value).ownBlock) (.slice Ao19 t169.length co19) t169) ∧ Aside0 (Kd.R (Kd.int .i64) 3 w' w.heap.size (fun k_ => (w.heap.size ≤ k_) ∧ some k_ ≠ ((.slice Ao19 t169.length co19) : Value).ownBlock) v173 x7_1) ∧ Aside0 (w'.heap[gb165]? = some (.cells #[.int .i64 a0_0, (.slice A0_1 l0_1.length c0_1)] 57 (0, 0))) ∧ Aside0 (w'.heap[gb166]? = some (.cells #[.int .i64 0, (.slice none 0 0)] 57 (0, 0))) ∧ Aside0 (Below w.heap.size w w'))
     case atStart => exact ⟨(Int.tmod (wrap64 ((Int.tmod a1 t168) + t168)) t168), (y172), (0), es_, es_, H', ⟨Nat.le_refl _⟩, ⟨by (with_reducible repeat (first | apply Kd.R_alloc | apply Kd.R_drewN | apply Kd.R_drew)); exact Kd.R_mono HO171.out (fun _ hk => ⟨hk.1.1, hk.2⟩)⟩, ⟨by (with_reducible repeat (first | apply Kd.R_alloc | apply Kd.R_drewN | apply Kd.R_drew)); exact Kd.R_mono HO174.out (fun _ hk => ⟨hk.1.1, hk.2⟩)⟩, ⟨bw_ BK165.out⟩, ⟨bw_ BK166.out⟩, ⟨hb_ HB⟩⟩
     case round =>
      clear H'
      try clear c4
      try clear c6
      try clear c6b0
      try clear c6b1
      try clear c8
      try clear c8b0
      try clear c8b1
      try clear c9
      try clear c9b0
      try clear c9b1
      try clear hcz13_0
      try clear hcz13_1
      try clear hcz15_0
      try clear hcz15_1
      try clear hcz17_0
      try clear hcz17_1
      try clear hfz13_0
      try clear hfz13_1
      try clear hfz15_0
      try clear hfz15_1
      try clear hfz17_0
      try clear hfz17_1
      obtain ⟨x1_1, x7_1, x8_1, rfl, rfl, HA, HK1, HO_6, HO_7, BK165, BK166, HB⟩ := hrel
      cases gk with
      | zero => exact absurd HA.out (by simp [calamusref32_Nth.l0])
      | succ k1 =>
       have H := HA.out
       clear HA
       simp only [calamusref32_Nth.l0] at H
       by_cases c22 : x8_1 < (t169.length : Int)
       ·rw [if_pos c22] at H
        have c22b0 : decide (x8_1 < (t169.length : Int)) = true := decide_eq_true c22
        clear c22
        by_cases c23 : 0 ≤ x8_1
        ·rw [if_pos c23] at H
         have c23b0 : decide (0 ≤ x8_1) = true := decide_eq_true c23
         clear c23
         by_cases c24 : (wrap64 ((rd t169 x8_1) + 1)) = 0
         ·rw [if_pos c24] at H
          exact absurd H (by simp)
         ·rw [if_neg c24] at H
          have c24b0 : ((wrap64 ((rd t169 x8_1) + 1)) == 0) = false := beq_eq_false_iff_ne.mpr c24
          have c24b1 : ((wrap64 ((rd t169 x8_1) + 1)) != 0) = true := bne_iff_ne.mpr c24
          by_cases c25 : x8_1 < (x7_1.length : Int)
          ·rw [if_pos c25] at H
           have c25b0 : decide (x8_1 < (x7_1.length : Int)) = true := decide_eq_true c25
           clear c25
           obtain ⟨y177, hy177⟩ : ∃ y_ : List Int, y_ = (x7_1.set (x8_1 : Int).toNat (wrap64 (x1_1 - (wrap64 ((wrap64 (Int.tdiv x1_1 (wrap64 ((rd t169 x8_1) + 1)))) * (wrap64 ((rd t169 x8_1) + 1))))))) := ⟨_, rfl⟩
           replace H : (calamusref32_Nth.l0 k1 (wrap64 (Int.tdiv x1_1 (wrap64 ((rd t169 x8_1) + 1)))) t169 y177 (wrap64 (x8_1 + 1))) = some (r1, r2) := th_ H hy177
           have Ny177 := Aside0.mk hy177
           clear hy177
           have H' := Aside0.mk H
           clear H
           try go_wp2
           have n0_ := Aside0.mk (Kd.R_drew HO_6.out)
           have n1_ := Aside0.mk (Kd.R_drew HO_7.out)
           have n2_ := Aside0.mk (blk_drew BK165.out)
           have n3_ := Aside0.mk (blk_drew BK166.out)
           have n4_ := Aside0.mk (below_drew1 HB.out)
           clear HO_6
           clear HO_7
           clear BK165
           clear BK166
           clear HB
           have HO_6 := n0_
           have HO_7 := n1_
           have BK165 := n2_
           have BK166 := n3_
           have HB := n4_
           clear n0_ n1_ n2_ n3_ n4_
           have p175 : 0 ≤ (x8_1 : Int) := of_decide_eq_true as_
           have q175 : x8_1 < (t169.length : Int) := of_decide_eq_true as_
           obtain ⟨ad175, e175, hx175_0⟩ := Kd.at_int (Kd.R_reads' HO_6.out).2.2 x8_1 p175 q175
           cases e175
           replace p175 := eq_true p175
           replace q175 := eq_true q175
           have p176 : 0 ≤ (x8_1 : Int) := of_decide_eq_true as_
           have q176 : x8_1 < (t169.length : Int) := of_decide_eq_true as_
           obtain ⟨ad176, e176, hx176_0⟩ := Kd.at_int (Kd.R_reads' HO_6.out).2.2 x8_1 p176 q176
           obtain rfl : ad175 = ad176 := (by injection e176)
           replace p176 := eq_true p176
           replace q176 := eq_true q176
           have p26 : 0 ≤ (x8_1 : Int) := of_decide_eq_true as_
           have q26 : (x8_1 : Int) < ((x7_1.length : Int) : Int) := of_decide_eq_true as_
           obtain ⟨go26, co26, eo26, gb26, gl26, cl26, HG26⟩ := Kd.R_form HO_7.out (by omega)
           (first | cases eo26 | (injection eo26 with ea_ en_ ec_; (first | subst ea_ | (injection ea_ with ea_; subst ea_)); subst ec_; clear en_))
           have GB26 := Aside0.mk gb26
           have GG26 := Aside0.mk HG26
           clear gb26 gl26 HG26
           obtain ⟨hx26_0, hf26_0⟩ := Kd.R_celln 0 HO_7.out (x8_1 : Int) p26 q26
           replace p26 := eq_true p26
           replace q26 := eq_true q26
           have HP28 := Kd.R_putn HO_7.out (x8_1 : Int) (wrap64 (x1_1 - (wrap64 ((wrap64 (Int.tdiv x1_1 (wrap64 ((rd t169 x8_1) + 1)))) * (wrap64 ((rd t169 x8_1) + 1))))))
           rw [← Ny177.out] at HP28
           have HQ28 := Aside0.mk HP28
           clear HP28
           refine start_ (n := 19) (S := fun w' => w'.cell? (ad175.add (x8_1).toNat) = some (.int .i64 (rd t169 x8_1)) ∧ w'.cell? (ad175.add (x8_1).toNat) = some (.int .i64 (rd t169 x8_1))) (ds := [18]) #[false, false, false, false, false, false, false, false, false, false, false, false, false, false, false, false, false, false, false] (by kernel_rfl) rfl rfl ⟨hx175_0, hx176_0⟩ (fun hHeld => ?_); refine with_tabW calamusref32_Nth.tab10 calamusref32_Nth.bits10 (fun HT_ HW_ => ?_)
           generalize wr.drew = w27 at HO_6 HO_7 BK165 BK166 HB GG26 HQ28 hf26_0 hx175_0 hx176_0 hx26_0 hHeld ⊢
           refine pp_ (i := 0) (N := some 33) #[true, false, false, false, false, false, false, false, false, false, false, false, false, false, false, false, false, false, false] rfl rfl (any_of HT_.out (by kernel_rfl)) (h := ?_)
           refine pp_ (i := 1) (N := some 34) #[true, true, false, false, false, false, false, false, false, false, false, false, false, false, false, false, false, false, false] rfl rfl (any_of HT_.out (by kernel_rfl)) (h := ?_)
           refine pp_ (i := 2) (N := some 35) #[true, true, true, false, false, false, false, false, false, false, false, false, false, false, false, false, false, false, false] rfl rfl (any_of HT_.out (by kernel_rfl)) (h := ?_)
           refine pp_ (i := 3) (N := some 36) #[true, true, true, true, false, false, false, false, false, false, false, false, false, false, false, false, false, false, false] rfl rfl (any_of HT_.out (by kernel_rfl)) (h := ?_)
           refine pp_ (i := 4) (N := some 37) #[true, true, true, true, true, false, false, false, false, false, false, false, false, false, false, false, false, false, false] rfl rfl (any_of HT_.out (by kernel_rfl)) (h := ?_)
           refine pp_ (i := 5) (N := some 38) #[true, true, true, true, true, true, false, false, false, false, false, false, false, false, false, false, false, false, false] rfl rfl (any_of HT_.out (by kernel_rfl)) (h := ?_)
           refine pp_ (i := 6) (N := some 39) #[true, true, true, true, true, true, true, false, false, false, false, false, false, false, false, false, false, false, false] rfl rfl (any_of HT_.out (by kernel_rfl)) (h := ?_)
           refine pp_ (i := 10) (N := some 43) #[true, true, true, true, true, true, true, false, false, false, true, false, false, false, false, false, false, false, false] rfl rfl (any_of HT_.out (by kernel_rfl)) (h := ?_)
           refine pp_ (i := 11) (N := some 44) #[true, true, true, true, true, true, true, false, false, false, true, true, false, false, false, false, false, false, false] rfl rfl (any_of HT_.out (by kernel_rfl)) (h := ?_)
           refine pp_ (i := 12) (N := some 45) #[true, true, true, true, true, true, true, false, false, false, true, true, true, false, false, false, false, false, false] rfl rfl (any_of HT_.out (by kernel_rfl)) (h := ?_)
           refine take_ (i := 7) (N := some 40) (v := ?_) (a' := ?_) #[true, true, true, true, true, true, true, true, false, false, true, true, true, false, false, false, false, false, false] rfl rfl (take_ofW HT_.out HW_.out (by kernel_rfl)) (fun _ _ _ h => h) (Or.inl ⟨by rfl, ?_⟩) hHeld ?_ ?_
           rotate_left
           ·rintro w' ⟨s0, s1⟩
            go_simp
            with_reducible rfl
           rotate_left
           ·simp only [Act.put, List.setIfInBounds_toArray, List.set_cons_zero, List.set_cons_succ, i64_w, i32_w]
            rfl
           refine pp_ (i := 8) (N := some 41) #[true, true, true, true, true, true, true, true, true, false, true, true, true, false, false, false, false, false, false] rfl rfl (any_of HT_.out (by kernel_rfl)) (h := ?_)
           refine pp_ (i := 9) (N := some 42) #[true, true, true, true, true, true, true, true, true, true, true, true, true, false, false, false, false, false, false] rfl rfl (any_of HT_.out (by kernel_rfl)) (h := ?_)
           refine take_ (i := 13) (N := some 46) (v := ?_) (a' := ?_) #[true, true, true, true, true, true, true, true, true, true, true, true, true, true, false, false, false, false, false] rfl rfl (take_ofW HT_.out HW_.out (by kernel_rfl)) (fun _ _ _ h => h) (Or.inl ⟨by rfl, ?_⟩) hHeld ?_ ?_
           rotate_left
           ·rintro w' ⟨s0, s1⟩
            go_simp
            with_reducible rfl
           rotate_left
           ·simp only [Act.put, List.setIfInBounds_toArray, List.set_cons_zero, List.set_cons_succ, i64_w, i32_w]
            rfl
           refine pp_ (i := 14) (N := some 47) #[true, true, true, true, true, true, true, true, true, true, true, true, true, true, true, false, false, false, false] rfl rfl (any_of HT_.out (by kernel_rfl)) (h := ?_)
           refine pp_ (i := 15) (N := some 48) #[true, true, true, true, true, true, true, true, true, true, true, true, true, true, true, true, false, false, false] rfl rfl (any_of HT_.out (by kernel_rfl)) (h := ?_)
           refine pp_ (i := 16) (N := some 49) #[true, true, true, true, true, true, true, true, true, true, true, true, true, true, true, true, true, false, false] rfl rfl (any_of HT_.out (by kernel_rfl)) (h := ?_)
           refine pp_ (i := 17) (N := some 50) #[true, true, true, true, true, true, true, true, true, true, true, true, true, true, true, true, true, true, false] rfl rfl (any_of HT_.out (by kernel_rfl)) (h := ?_)
           refine last_ (i := 18) (N := none) #[true, true, true, true, true, true, true, true, true, true, true, true, true, true, true, true, true, true, true] rfl rfl (one_of HT_.out (by kernel_rfl)) (by decide) (fun K hK => ?_)
           refine skip_ (w1 := ?_) (by rfl) rfl ?_ ?_
           rotate_left
           ·go_simp
            rfl
           refine hK.out _ _ ?_
           clear hK K
           refine done_ (done_of HT_.out (by kernel_rfl)) ?_
           have p178 : 0 ≤ (x8_1 : Int) := of_decide_eq_true as_
           have q178 : x8_1 < (t169.length : Int) := of_decide_eq_true as_
           obtain ⟨ad178, e178, hx178_0⟩ := Kd.at_int (Kd.R_reads' HO_6.out).2.2 x8_1 p178 q178
           obtain rfl : ad175 = ad178 := (by injection e178)
           have hn178_0 : ad175.block ≠ go26 := Kd.own_blk (by intro e_; have h_ := HO_6.out.1 _ e_.symm; simp [Value.ownBlock] at h_)
           replace hx178_0 := (cell_far (p := ⟨go26, (x8_1 : Int).toNat, none⟩) (by first | (rw [add_block]; exact hn178_0) | (show (Addr.add _ _).block ≠ _; rw [add_block]; exact hn178_0) | exact hn178_0) (.int .i64 (wrap64 (x1_1 - (wrap64 ((wrap64 (Int.tdiv x1_1 (wrap64 ((rd t169 x8_1) + 1)))) * (wrap64 ((rd t169 x8_1) + 1)))))))).trans hx178_0
           clear hn178_0
           replace p178 := eq_true p178
           replace q178 := eq_true q178
           try go_wp2
           go_roundg k1
           case measure => have := HK1.out; omega
           case rel => exact ⟨(wrap64 (Int.tdiv x1_1 (wrap64 ((rd t169 x8_1) + 1)))), (y177), (wrap64 (x8_1 + 1)), es_, es_, H', ⟨by have := HK1.out; omega⟩, ⟨by (with_reducible repeat (first | apply Kd.R_alloc | apply Kd.R_drewN | apply Kd.R_drew)); exact Kd.R_mono (Kd.R_far (p := ⟨go26, (x8_1 : Int).toNat, none⟩) (Kd.R_mono HO_6.out (fun k_ hk => (⟨hk, fun e_ => hk.2 (by rw [e_]; rfl)⟩ : _ ∧ k_ ≠ go26))) (fun _ hk => hk.2) (.int .i64 (wrap64 (x1_1 - (wrap64 ((wrap64 (Int.tdiv x1_1 (wrap64 ((rd t169 x8_1) + 1)))) * (wrap64 ((rd t169 x8_1) + 1)))))))) (fun _ hk => ⟨hk.1.1, hk.1.2⟩)⟩, ⟨rw_ HQ28.out⟩, ⟨by (with_reducible repeat (first | refine blk_drewN ?_ _ | refine blk_drew ?_ | refine blk_alloc ?_ _)); refine blk_far ?_ (by have h_ := Kd.R_ne HO_7.out BK165.out (by decide); intro e_; exact h_ (by rw [e_]; rfl)) _; (with_reducible repeat (first | refine blk_drewN ?_ _ | refine blk_drew ?_ | refine blk_alloc ?_ _)); exact BK165.out⟩, ⟨by (with_reducible repeat (first | refine blk_drewN ?_ _ | refine blk_drew ?_ | refine blk_alloc ?_ _)); refine blk_far ?_ (by have h_ := Kd.R_ne HO_7.out BK166.out (by decide); intro e_; exact h_ (by rw [e_]; rfl)) _; (with_reducible repeat (first | refine blk_drewN ?_ _ | refine blk_drew ?_ | refine blk_alloc ?_ _)); exact BK166.out⟩, ⟨by repeat (first | (with_reducible first | exact HB.out | apply below_alloc | apply pw_below_drewN | apply below_drew1 | refine below_set ?_ GB26.out | refine below_set ?_ GE165.out | refine below_set ?_ GE166.out) | exact HB.out)⟩⟩
          ·rw [if_neg c25] at H
           exact absurd H (by simp)
        ·rw [if_neg c23] at H
         exact absurd H (by simp)
       ·rw [if_neg c22] at H
        have c22b0 : decide (x8_1 < (t169.length : Int)) = false := decide_eq_false c22
        clear c22
        replace H := Option.bind_eq_some_iff.mp H
        obtain ⟨⟨t179, t180⟩, A290, H⟩ := H
        replace H : (some (t179, t180)) = some (r1, r2) := H
        have A29 := Aside0.mk A290
        clear A290
        simp only [Option.some.injEq, Prod.mk.injEq] at H
        obtain ⟨rfl, rfl⟩ := H
        obtain ⟨Ao30, co30, eo30⟩ := Kd.R_slice HO_7.out
        subst eo30
        go_wp2_with (first | ((with_reducible refine gate_callee (f := 76) rfl ?_); refine ge_ (some 59) rfl rfl Try.func76 (by kernel_rfl) rfl #[.slice Ao30 x7_1.length co30] rfl (h := ?_); (with_reducible refine (calamusref32_made.calls (fun k_ => some k_ = (.slice Ao30 x7_1.length co30 : Value).ownBlock) _ _ x7_1 t179 t180 _ ?side1 A29.out).mono ?_); (case side1 => exact Kd.R_V (Kd.R_tight rfl (Kd.R_types (Kd.R_types (HO_7.out) BK165.out (by decide)) BK166.out (by decide)))); rintro e w31 ⟨v181, rfl, ho0, hb⟩; refine ⟨_, rfl, ?_⟩; have HO182 := Aside0.mk (Kd.V_lower (Kd.V_mono (ok' := fun k_ => (w.heap.size ≤ k_) ∧ some k_ ≠ (.slice Ao19 t169.length co19 : Value).ownBlock ∧ k_ ≠ gb165 ∧ k_ ≠ gb166) ho0 (fun k_ hk_ => ⟨Or.elim hk_ (fun hs_ => ((Kd.R_types (Kd.R_types (HO_7.out) BK165.out (by decide)) BK166.out (by decide)).1 k_ hs_.symm).1.1.1) (fun hn_ => (Nat.le_trans (below_size (hb_ HB)) hn_)), Or.elim hk_ (fun hs_ => ((Kd.R_types (Kd.R_types (HO_7.out) BK165.out (by decide)) BK166.out (by decide)).1 k_ hs_.symm).1.1.2) (fun hn_ => (Kd.fresh' (Kd.R_lt (rw_ HO_6.out)) k_ hn_)), Or.elim hk_ (fun hs_ => ((Kd.R_types (Kd.R_types (HO_7.out) BK165.out (by decide)) BK166.out (by decide)).1 k_ hs_.symm).1.2) (fun hn_ => (Kd.freshB (g := gb165) (o := .cells #[.int .i64 a0_0, .slice A0_1 l0_1.length c0_1] 57 (0, 0)) (bw_ BK165.out) k_ hn_)), Or.elim hk_ (fun hs_ => ((Kd.R_types (Kd.R_types (HO_7.out) BK165.out (by decide)) BK166.out (by decide)).1 k_ hs_.symm).2) (fun hn_ => (Kd.freshB (g := gb166) (o := .cells #[.int .i64 0, .slice none 0 0] 57 (0, 0)) (bw_ BK166.out) k_ hn_))⟩)) (below_size (hb_ HB))); replace HO_6 := Aside0.mk (Kd.R_below (rw_ HO_6.out) hb); replace HO_7 := Aside0.mk (Kd.R_below (rw_ HO_7.out) hb); replace BK165 := bb_ BK165 hb; replace BK166 := bb_ BK166 hb; replace HB := bs_ HB hb; (try clear hb); (try clear hb2); (try clear hk); (try clear hi); (try clear ho0); have hnb32 := NB166_165.out; have hnc32 := NB165_166.out; obtain ⟨hcz33_0, hcz33_1, hfz33_0, hfz33_1⟩ := bc2_ BK166; obtain ⟨Ao34, co34, eo34⟩ := Kd.V_slice HO182.out; subst eo34))
        refine bodyPost_ret (results_cell_row rfl _ _ gb166 57 #[.int .i64 t179, .slice Ao34 t180.length co34] (0, 0) _ rfl (bp_ BK166.out) Try.underlying57 rfl (by kernel_rfl)) rfl ?_
        exact ⟨_, er_, by (with_reducible repeat (first | apply Kd.V_alloc | apply Kd.V_drewN | apply Kd.V_drew)); exact Kd.V_mono (vf_ (Kd.V_mono HO182.out (fun k_ hk => (⟨hk, hk.2.2.2⟩ : _ ∧ k_ ≠ gb166))) (fun _ hk => hk.2)) (fun _ hk => hk.1.1), hb_ HB⟩
    ·rw [if_neg c9] at H
     exact absurd H (by simp)
   ·rw [if_neg c8] at H
    exact absurd H (by simp)
 ·replace c4 := Bool.eq_false_iff.mpr c4
  subst c4
  have H1 : (some (0, ([] : List Int))) = some (r1, r2) := by rw [if_neg (show ¬ (false = true) by decide)] at H; exact H
  clear H
  have H := H1
  clear H1
  simp only [Option.some.injEq, Prod.mk.injEq] at H
  obtain ⟨rfl, rfl⟩ := H
  go_enter Try.func57, Try.ntmps57
  go_wp2_with (first | ((with_reducible refine gate_dst (N := 2) rfl ?_); refine be_ (N := 2) (cs := #[.int .i64 a0_0, .slice A0_1 l0_1.length c0_1]) (t := 57) (h := ?_); intro gb165 hg w35 hbox hb; have BK165 := Aside0.mk (hbox); have GW165 := gw_ HB hg; have GE165 := gw_ HB hg; replace HB := bs_ HB hb; clear hb hbox hg) | ((with_reducible refine gate_dst (N := 4) rfl ?_); refine be_ (N := 4) (cs := #[.int .i64 0, .slice none 0 0]) (t := 57) (h := ?_); intro gb166 hg w36 hbox hb; have BK166 := Aside0.mk (hbox); have GW166 := gw_ HB hg; have GE166 := gw_ HB hg; have NB165_166 := ne_ BK165 hg; have NB166_165 := en_ BK165 hg; replace BK165 := bb_ BK165 hb; replace HB := bs_ HB hb; clear hb hbox hg; have hnb37 := NB165_166.out; have hnc37 := NB166_165.out; obtain ⟨hcz38_0, hcz38_1, hfz38_0, hfz38_1⟩ := bc2_ BK165) | ((with_reducible refine gate_callee (f := 74) rfl ?_); refine ge_ (some 10) rfl rfl Try.func74 (by kernel_rfl) rfl #[.agg #[.int .i64 a0_0, .slice A0_1 l0_1.length c0_1]] rfl (h := ?_); (with_reducible refine (calamusref32_right.calls k a0_0 _ _ l0_1 false _ ?side1 ?side2 A3.out).mono ?_); (case side1 => exact cw_ (Kd.C_below HR0_1.out HB.out)); (case side2 => exact HC0_1.out); rintro e w39 ⟨rfl, hb⟩; refine ⟨_, rfl, ?_⟩; replace BK165 := bb_ BK165 hb; replace BK166 := bb_ BK166 hb; replace HB := bs_ HB hb; (try clear hb); (try clear hb2); (try clear hk); (try clear hi); obtain ⟨hcz40_0, hcz40_1, hfz40_0, hfz40_1⟩ := bc2_ BK166))
  refine bodyPost_ret (results_cell_row rfl _ _ gb166 57 #[.int .i64 0, .slice none 0 0] (0, 0) _ rfl (bp_ BK166.out) Try.underlying57 rfl (by kernel_rfl)) rfl ?_
  exact ⟨_, er_, Kd.R_V (base := w.heap.size) (by first | exact Kd.R_nil _ _ _ _ _ | exact Kd.N_nil _ _ _ _ _ | exact Kd.V_nil _ _ _ _ _ | exact Kd.Q_nil _ _ _ _ _ | exact Kd.S_nil _ _ _ _ _), hb_ HB⟩

end Go.Proofs.Ytjobaaolohemgaa.PFallChoices
