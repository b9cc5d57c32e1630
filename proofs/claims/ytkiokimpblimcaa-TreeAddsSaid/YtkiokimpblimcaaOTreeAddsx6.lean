/- Of the law calamus/calamuslaw11.TreeAdds: each function as a plain Lean function, with a proof that the call comes to it; the row. By wip/tpl/own_print.py. Conditions: none but the row's own. -/
import Derived.Test.YtkiokimpblimcaaOTreeAddsx0
import Derived.Test.YtkiokimpblimcaaOTreeAddsx3
import Derived.Test.YtkiokimpblimcaaOTreeAddsx5
namespace Go.Proofs.Ytkiokimpblimcaa.PTreeAdds
open Go.RowKit Go.Proofs.YtkiokimpblimcaaW.PrintWords Go.Proofs.YtkiokimpblimcaaW.PrintLast Go.Proofs.YtkiokimpblimcaaW.PrintMore
attribute [local go_sem] max2_int min2_int max_two min_two max_three min_three max_four min_four   -- for this text's walks alone
set_option linter.unusedVariables false
set_option linter.unusedSimpArgs false

/-! ### tree_Undo: function 42 -/
def tree_Undo.f (k : Nat) (l0_0 : List (S69)) (a0_1 : Int) : Option ((List (S69)) × Int × Int × Bool) := (tree_open.f k l0_0 a0_1).bind fun bt160 => (if bt160.2.2 = true then (if 0 ≤ bt160.2.1 then (if bt160.2.1 < (bt160.1.length : Int) then ((tree_step.f bt160.1 bt160.2.1 bt160.2.2 ((rd_T69 bt160.1 bt160.2.1).f0) bt160.2.1).bind fun bt167 => (some (bt167.1, bt167.2.1, bt167.2.2.1, bt167.2.2.2))) else (none)) else (none)) else (some (([] : List (S69)), 0, 0, false)))
theorem tree_Undo.mono : ∀ a0 a1 k, LeO (tree_Undo.f k a0 a1) (tree_Undo.f (k + 1) a0 a1) := by
 intro a0 a1 k
 unfold tree_Undo.f
 repeat' first
   | (with_reducible exact tree_open.mono _ _ _)
   | (with_reducible exact LeO.refl _)
   | (with_reducible exact LeO.none _)
   | (with_reducible refine LeO.ite ?_ ?_)
   | (with_reducible refine LeO.bind ?_ (fun _ => ?_))
   | exact tree_open.mono _ _ _
   | exact LeO.none _
   | refine LeO.ite ?_ ?_
   | refine LeO.bind ?_ (fun _ => ?_)
def tree_Undo.T4 : Bool × List (List Nat × List Nat) := (true, [([], []), ([], []), ([1], [1]), ([2], [2]), ([3], [3]), ([], []), ([5], [5]), ([6], [6]), ([7], [7]), ([4, 8], [4, 8]), ([9], [9]), ([10], [10]), ([], []), ([12], [12]), ([13], [13]), ([14], [14]), ([0, 11, 15], [0, 11, 15]), ([16], [16]), ([16], [16]), ([16], [16]), ([17, 16, 0, 1, 2, 3, 4, 5, 6, 7, 8, 9, 10, 11, 12, 13, 14, 15, 16, 17, 18, 19], [17]), ([18, 20, 0, 1, 2, 3, 4, 5, 6, 7, 8, 9, 10, 11, 12, 13, 14, 15, 16, 17, 18, 19, 20], [18]), ([19, 21, 0, 1, 2, 3, 4, 5, 6, 7, 8, 9, 10, 11, 12, 13, 14, 15, 16, 17, 18, 19, 20, 21], [19])])
def tree_Undo.B4 : List Nat := [0, 0, 2, 6, 14, 0, 32, 96, 224, 510, 1022, 2046, 0, 4096, 12288, 28672, 65535, 131071, 131071, 131071, 1048575, 2097151, 4194303]
theorem tree_Undo.tab4 : rtab .any (opsOf Try.f42 4) = tree_Undo.T4 := by kernel_rfl
theorem tree_Undo.bits4 : waitsOk tree_Undo.T4.2 tree_Undo.B4 = true := by kernel_rfl
set_option maxHeartbeats 8000000 in
set_option maxRecDepth 100000 in
theorem tree_Undo.calls (k : Nat) (A0_0 : Option Addr) (c0_0 : Nat) (l0_0 : List (S69)) (a0_1 : Int) (r1 : List (S69)) (r2 : Int) (r3 : Int) (r4 : Bool) (w : World) (hr0_0 : Kd.C k69 w A0_0 l0_0.length l0_0) (hc0_0 : l0_0.length ≤ c0_0) (h : tree_Undo.f k l0_0 a0_1 = some (r1, r2, r3, r4)) :
  Calls Try.prog 42 #[.agg #[.slice A0_0 l0_0.length c0_0, .int .i64 a0_1]] w fun e w' => ∃ v0_ : Value, e = .returned (.tuple #[.agg #[v0_, .int .i64 r2], .int .i64 r3, .bool r4]) ∧ Kd.R k69 69 w' w.heap.size (fun _ => True) v0_ r1 ∧ Below w.heap.size w w' := by
 have hu46 := Try.underlying46
 have hu104 := Try.underlying104
 have HR0_0 := Aside0.mk hr0_0
 have HC0_0 := Aside0.mk hc0_0
 clear hr0_0 hc0_0
 have HB := Aside0.mk (Below.refl w.heap.size w)
 have H : ((tree_open.f k l0_0 a0_1).bind fun bt160 => (if bt160.2.2 = true then (if 0 ≤ bt160.2.1 then (if bt160.2.1 < (bt160.1.length : Int) then ((tree_step.f bt160.1 bt160.2.1 bt160.2.2 ((rd_T69 bt160.1 bt160.2.1).f0) bt160.2.1).bind fun bt167 => (some (bt167.1, bt167.2.1, bt167.2.2.1, bt167.2.2.2))) else (none)) else (none)) else (some (([] : List (S69)), 0, 0, false)))) = some (r1, r2, r3, r4) := h
 clear h
 replace H := Option.bind_eq_some_iff.mp H
 obtain ⟨⟨t160, t163, t164⟩, A20, H⟩ := H
 replace H : (if t164 = true then (if 0 ≤ t163 then (if t163 < (t160.length : Int) then ((tree_step.f t160 t163 t164 ((rd_T69 t160 t163).f0) t163).bind fun bt167 => (some (bt167.1, bt167.2.1, bt167.2.2.1, bt167.2.2.2))) else (none)) else (none)) else (some (([] : List (S69)), 0, 0, false))) = some (r1, r2, r3, r4) := H
 have A2 := Aside0.mk A20
 clear A20
 by_cases c3 : t164 = true
 ·subst c3
  have H1 : (if 0 ≤ t163 then (if t163 < (t160.length : Int) then ((tree_step.f t160 t163 true ((rd_T69 t160 t163).f0) t163).bind fun bt167 => (some (bt167.1, bt167.2.1, bt167.2.2.1, bt167.2.2.2))) else (none)) else (none)) = some (r1, r2, r3, r4) := by rw [if_pos rfl] at H; exact H
  clear H
  have H := H1
  clear H1
  by_cases c4 : 0 ≤ t163
  ·rw [if_pos c4] at H
   have c4b0 : decide (0 ≤ t163) = true := decide_eq_true c4
   clear c4
   by_cases c5 : t163 < (t160.length : Int)
   ·rw [if_pos c5] at H
    have c5b0 : decide (t163 < (t160.length : Int)) = true := decide_eq_true c5
    clear c5
    replace H := Option.bind_eq_some_iff.mp H
    obtain ⟨⟨t167, t170, t171, t172⟩, A60, H⟩ := H
    replace H : (some (t167, t170, t171, t172)) = some (r1, r2, r3, r4) := H
    have A6 := Aside0.mk A60
    clear A60
    simp only [Option.some.injEq, Prod.mk.injEq] at H
    obtain ⟨rfl, rfl, rfl, rfl⟩ := H
    go_enter Try.func42, Try.ntmps42
    try go_wp2_with (first | ((with_reducible refine gate_dst (N := 1) rfl ?_); refine be_ (N := 1) (cs := #[.slice A0_0 l0_0.length c0_0, .int .i64 a0_1]) (t := 46) (h := ?_); intro gb158 hg w7 hbox hb; have BK158 := Aside0.mk (hbox); have GW158 := gw_ HB hg; have GE158 := gw_ HB hg; replace HB := bs_ HB hb; clear hb hbox hg) | ((with_reducible refine gate_dst (N := 2) rfl ?_); refine be_ (N := 2) (cs := #[.slice none 0 0, .int .i64 0]) (t := 46) (h := ?_); intro gb159 hg w8 hbox hb; have BK159 := Aside0.mk (hbox); have GW159 := gw_ HB hg; have GE159 := gw_ HB hg; have NB158_159 := ne_ BK158 hg; have NB159_158 := en_ BK158 hg; replace BK158 := bb_ BK158 hb; replace HB := bs_ HB hb; clear hb hbox hg; have hnb9 := NB158_159.out; have hnc9 := NB159_158.out; obtain ⟨hcz10_0, hcz10_1, hfz10_0, hfz10_1⟩ := bc2_ BK158) | ((with_reducible refine gate_callee (f := 79) rfl ?_); refine ge_ (some 7) rfl rfl Try.func79 (by kernel_rfl) rfl #[.agg #[.slice A0_0 l0_0.length c0_0, .int .i64 a0_1]] rfl (h := ?_); (with_reducible refine (tree_open.calls k (fun k_ => k_ < w.heap.size) _ _ l0_0 a0_1 t160 t163 true _ ?side1 A2.out).mono ?_); (case side1 => exact Kd.V_mk HC0_0.out (Kd.F_below (Kd.C_F k69_heap HR0_0.out) (hb_ HB))); rintro e w11 ⟨v161, rfl, ho0, hb⟩; refine ⟨_, rfl, ?_⟩; have HO162 := Aside0.mk (Kd.V_lower (Kd.V_mono (ok' := fun k_ => k_ ≠ gb158 ∧ k_ ≠ gb159) ho0 (fun k_ hk_ => ⟨Or.elim hk_ (fun hs_ => fun e_ => Nat.not_le.2 hs_ (by rw [e_]; exact GW158.out)) (fun hn_ => (Kd.freshB (g := gb158) (o := .cells #[.slice A0_0 l0_0.length c0_0, .int .i64 a0_1] 46 (0, 0)) (bw_ BK158.out) k_ hn_)), Or.elim hk_ (fun hs_ => fun e_ => Nat.not_le.2 hs_ (by rw [e_]; exact GW159.out)) (fun hn_ => (Kd.freshB (g := gb159) (o := .cells #[.slice none 0 0, .int .i64 0] 46 (0, 0)) (bw_ BK159.out) k_ hn_))⟩)) (below_size (hb_ HB))); replace BK158 := bb_ BK158 hb; replace BK159 := bb_ BK159 hb; replace HB := bs_ HB hb; (try clear hb); (try clear hb2); (try clear hk); (try clear hi); (try clear ho0)) | ((with_reducible refine gate_dst (N := 5) rfl ?_); refine be_ (N := 5) (cs := #[.slice none 0 0, .int .i64 0, .bool false]) (t := 104) (h := ?_); intro gb165 hg w12 hbox hb; have BK165 := Aside0.mk (hbox); have GW165 := gw_ HB hg; have GE165 := gw_ HB hg; have NB158_165 := ne_ BK158 hg; have NB165_158 := en_ BK158 hg; have NB159_165 := ne_ BK159 hg; have NB165_159 := en_ BK159 hg; replace HO162 := Aside0.mk (Kd.V_below (Kd.V_elderB (vw_ HO162.out) gb165 (Nat.le_of_eq hg.symm)) hb); replace BK158 := bb_ BK158 hb; replace BK159 := bb_ BK159 hb; replace HB := bs_ HB hb; clear hb hbox hg; obtain ⟨Ao13, co13, eo13⟩ := Kd.V_slice HO162.out; subst eo13; have hnb14 := NB165_158.out; have hnc14 := NB158_165.out; have hnb15 := NB165_159.out; have hnc15 := NB159_165.out; obtain ⟨hcz16_0, hcz16_1, hcz16_2, hfz16_0, hfz16_1, hfz16_2⟩ := bc3_ BK165))
    obtain ⟨w17, hW_⟩ : ∃ x, x = (((w12.setCell ⟨gb165, 0, none⟩ (.slice Ao13 t160.length co13)).setCell ⟨gb165, 1, none⟩ (.int .i64 t163)).setCell ⟨gb165, 2, none⟩ (.bool true)) := ⟨_, rfl⟩
    have n0_ : Aside0 (Kd.V k69 69 w17 w.heap.size (fun k_ => k_ ≠ gb158 ∧ k_ ≠ gb159 ∧ k_ ≠ gb165) (.slice Ao13 t160.length co13) t160) := ⟨by rw [hW_]; (with_reducible repeat (first | apply Kd.V_alloc | apply Kd.V_drewN | apply Kd.V_drew)); exact Kd.V_mono (vf_ (Kd.V_mono HO162.out (fun k_ hk => (⟨hk, hk.2⟩ : _ ∧ k_ ≠ gb165))) (fun _ hk => hk.2)) (fun _ hk => ⟨hk.1.1.1, ⟨hk.1.1.2, hk.1.2⟩⟩)⟩
    have n1_ : Aside0 (w17.heap[gb158]? = some (.cells #[.slice A0_0 l0_0.length c0_0, .int .i64 a0_1] 46 (0, 0))) := ⟨by rw [hW_]; exact bp_ BK158.out⟩
    have n2_ : Aside0 (w17.heap[gb159]? = some (.cells #[.slice none 0 0, .int .i64 0] 46 (0, 0))) := ⟨by rw [hW_]; exact bp_ BK159.out⟩
    have n3_ : Aside0 (w17.heap[gb165]? = some (.cells #[.slice Ao13 t160.length co13, .int .i64 t163, .bool true] 104 (0, 0))) := ⟨by rw [hW_]; exact bp_ BK165.out⟩
    have n4_ : Aside0 (Below w.heap.size w w17) := ⟨by rw [hW_]; exact hb_ HB⟩
    (try clear HO162)
    (try clear BK158)
    (try clear BK159)
    (try clear BK165)
    (try clear HB)
    rw [← hW_]; clear hW_
    have HO162 := n0_
    have BK158 := n1_
    have BK159 := n2_
    have BK165 := n3_
    have HB := n4_
    clear n0_ n1_ n2_ n3_ n4_
    have n0_ := Aside0.mk (Kd.V_drew HO162.out)
    have n1_ := Aside0.mk (blk_drew BK158.out)
    have n2_ := Aside0.mk (blk_drew BK159.out)
    have n3_ := Aside0.mk (blk_drew BK165.out)
    have n4_ := Aside0.mk (below_drew1 HB.out)
    clear HO162
    clear BK158
    clear BK159
    clear BK165
    clear HB
    have HO162 := n0_
    have BK158 := n1_
    have BK159 := n2_
    have BK165 := n3_
    have HB := n4_
    clear n0_ n1_ n2_ n3_ n4_
    have p166 : 0 ≤ (t163 : Int) := of_decide_eq_true as_
    have q166 : t163 < (t160.length : Int) := of_decide_eq_true as_
    obtain ⟨ad166, e166, hx166_0, hx166_1, hx166_2, hx166_3, hx166_4, hx166_5, hx166_6⟩ := at_T69 (Kd.V_reads' HO162.out).2.2 t163 p166 q166
    cases e166
    replace p166 := eq_true p166
    replace q166 := eq_true q166
    refine start_ (n := 23) (S := fun w' => w'.cell? ⟨gb165, 0, none⟩ = some (.slice (some ad166) t160.length co13) ∧ w'.cell? ⟨gb165, 1, none⟩ = some (.int .i64 t163) ∧ w'.cell? ⟨gb165, 2, none⟩ = some (.bool true) ∧ w'.cell? (ad166.add ((t163).toNat * 7)) = some (.int .i64 ((rd_T69 t160 t163).f0)) ∧ w'.cell? ⟨(ad166.add ((t163).toNat * 7)).block, (ad166.add ((t163).toNat * 7)).off + 1, none⟩ = some (.int .i64 ((rd_T69 t160 t163).f1)) ∧ w'.cell? ⟨(ad166.add ((t163).toNat * 7)).block, (ad166.add ((t163).toNat * 7)).off + 2, none⟩ = some (.int .i64 ((rd_T69 t160 t163).f2)) ∧ w'.cell? ⟨(ad166.add ((t163).toNat * 7)).block, (ad166.add ((t163).toNat * 7)).off + 3, none⟩ = some (.int .i64 ((rd_T69 t160 t163).f3)) ∧ w'.cell? ⟨(ad166.add ((t163).toNat * 7)).block, (ad166.add ((t163).toNat * 7)).off + 4, none⟩ = some (.int .i64 ((rd_T69 t160 t163).f4.f0)) ∧ w'.cell? ⟨(ad166.add ((t163).toNat * 7)).block, (ad166.add ((t163).toNat * 7)).off + 5, none⟩ = some (.string ((rd_T69 t160 t163).f4.f1)) ∧ w'.cell? ⟨(ad166.add ((t163).toNat * 7)).block, (ad166.add ((t163).toNat * 7)).off + 6, none⟩ = some (.string ((rd_T69 t160 t163).f4.f2))) (ds := []) #[false, false, false, false, false, false, false, false, false, false, false, false, false, false, false, false, false, false, false, false, false, false, false] (by kernel_rfl) rfl rfl ⟨(blk_cell BK165.out 0).trans rfl, (blk_cell BK165.out 1).trans rfl, (blk_cell BK165.out 2).trans rfl, hx166_0, hx166_1, hx166_2, hx166_3, hx166_4, hx166_5, hx166_6⟩ (fun hHeld => ?_); refine with_tabW tree_Undo.tab4 tree_Undo.bits4 (fun HT_ HW_ => ?_)
    generalize w17.drew = w18 at HO162 BK158 BK159 BK165 HB hx166_0 hx166_1 hx166_2 hx166_3 hx166_4 hx166_5 hx166_6 hHeld ⊢
    refine pp_ (i := 1) (N := some 13) #[false, true, false, false, false, false, false, false, false, false, false, false, false, false, false, false, false, false, false, false, false, false, false] rfl rfl (any_of HT_.out (by kernel_rfl)) (h := ?_)
    refine pp_ (i := 2) (N := some 14) #[false, true, true, false, false, false, false, false, false, false, false, false, false, false, false, false, false, false, false, false, false, false, false] rfl rfl (any_of HT_.out (by kernel_rfl)) (h := ?_)
    refine pp_ (i := 3) (N := some 15) #[false, true, true, true, false, false, false, false, false, false, false, false, false, false, false, false, false, false, false, false, false, false, false] rfl rfl (any_of HT_.out (by kernel_rfl)) (h := ?_)
    refine pp_ (i := 5) (N := some 17) #[false, true, true, true, false, true, false, false, false, false, false, false, false, false, false, false, false, false, false, false, false, false, false] rfl rfl (any_of HT_.out (by kernel_rfl)) (h := ?_)
    refine pp_ (i := 6) (N := some 18) #[false, true, true, true, false, true, true, false, false, false, false, false, false, false, false, false, false, false, false, false, false, false, false] rfl rfl (any_of HT_.out (by kernel_rfl)) (h := ?_)
    refine pp_ (i := 7) (N := some 19) #[false, true, true, true, false, true, true, true, false, false, false, false, false, false, false, false, false, false, false, false, false, false, false] rfl rfl (any_of HT_.out (by kernel_rfl)) (h := ?_)
    refine pp_ (i := 12) (N := some 24) #[false, true, true, true, false, true, true, true, false, false, false, false, true, false, false, false, false, false, false, false, false, false, false] rfl rfl (any_of HT_.out (by kernel_rfl)) (h := ?_)
    refine pp_ (i := 13) (N := some 25) #[false, true, true, true, false, true, true, true, false, false, false, false, true, true, false, false, false, false, false, false, false, false, false] rfl rfl (any_of HT_.out (by kernel_rfl)) (h := ?_)
    refine pp_ (i := 14) (N := some 26) #[false, true, true, true, false, true, true, true, false, false, false, false, true, true, true, false, false, false, false, false, false, false, false] rfl rfl (any_of HT_.out (by kernel_rfl)) (h := ?_)
    refine take_ (i := 0) (N := some 12) (v := ?_) (a' := ?_) #[true, true, true, true, false, true, true, true, false, false, false, false, true, true, true, false, false, false, false, false, false, false, false] rfl rfl (take_ofW HT_.out HW_.out (by kernel_rfl)) (fun _ _ _ h => h) (Or.inl ⟨by rfl, ?_⟩) hHeld ?_ ?_
    rotate_left
    ·rintro w' ⟨s0, s1, s2, s3, s4, s5, s6, s7, s8, s9⟩
     go_simp
     with_reducible rfl
    rotate_left
    ·simp only [Act.put, List.setIfInBounds_toArray, List.set_cons_zero, List.set_cons_succ, i64_w, i32_w]
     rfl
    refine take_ (i := 4) (N := some 16) (v := ?_) (a' := ?_) #[true, true, true, true, true, true, true, true, false, false, false, false, true, true, true, false, false, false, false, false, false, false, false] rfl rfl (take_ofW HT_.out HW_.out (by kernel_rfl)) (fun _ _ _ h => h) (Or.inl ⟨by rfl, ?_⟩) hHeld ?_ ?_
    rotate_left
    ·rintro w' ⟨s0, s1, s2, s3, s4, s5, s6, s7, s8, s9⟩
     go_simp
     with_reducible rfl
    rotate_left
    ·simp only [Act.put, List.setIfInBounds_toArray, List.set_cons_zero, List.set_cons_succ, i64_w, i32_w]
     rfl
    refine take_ (i := 8) (N := some 20) (v := ?_) (a' := ?_) #[true, true, true, true, true, true, true, true, true, false, false, false, true, true, true, false, false, false, false, false, false, false, false] rfl rfl (take_ofW HT_.out HW_.out (by kernel_rfl)) (fun _ _ _ h => h) (Or.inl ⟨by rfl, ?_⟩) hHeld ?_ ?_
    rotate_left
    ·rintro w' ⟨s0, s1, s2, s3, s4, s5, s6, s7, s8, s9⟩
     go_simp
     with_reducible rfl
    rotate_left
    ·simp only [Act.put, List.setIfInBounds_toArray, List.set_cons_zero, List.set_cons_succ, i64_w, i32_w]
     rfl
    refine pp_ (i := 9) (N := some 21) #[true, true, true, true, true, true, true, true, true, true, false, false, true, true, true, false, false, false, false, false, false, false, false] rfl rfl (any_of HT_.out (by kernel_rfl)) (h := ?_)
    refine pp_ (i := 10) (N := some 22) #[true, true, true, true, true, true, true, true, true, true, true, false, true, true, true, false, false, false, false, false, false, false, false] rfl rfl (any_of HT_.out (by kernel_rfl)) (h := ?_)
    refine take_ (i := 11) (N := some 23) (v := ?_) (a' := ?_) #[true, true, true, true, true, true, true, true, true, true, true, true, true, true, true, false, false, false, false, false, false, false, false] rfl rfl (take_ofW HT_.out HW_.out (by kernel_rfl)) (fun _ _ _ h => h) (Or.inl ⟨by rfl, ?_⟩) hHeld ?_ ?_
    rotate_left
    ·rintro w' ⟨s0, s1, s2, s3, s4, s5, s6, s7, s8, s9⟩
     go_simp
     with_reducible rfl
    rotate_left
    ·simp only [Act.put, List.setIfInBounds_toArray, List.set_cons_zero, List.set_cons_succ, i64_w, i32_w]
     rfl
    refine take_ (i := 15) (N := some 27) (v := ?_) (a' := ?_) #[true, true, true, true, true, true, true, true, true, true, true, true, true, true, true, true, false, false, false, false, false, false, false] rfl rfl (take_ofW HT_.out HW_.out (by kernel_rfl)) (fun _ _ _ h => h) (Or.inl ⟨by rfl, ?_⟩) hHeld ?_ ?_
    rotate_left
    ·rintro w' ⟨s0, s1, s2, s3, s4, s5, s6, s7, s8, s9⟩
     go_simp
     with_reducible rfl
    rotate_left
    ·simp only [Act.put, List.setIfInBounds_toArray, List.set_cons_zero, List.set_cons_succ, i64_w, i32_w]
     rfl
    refine one_ (i := 16) (N := some 28) #[true, true, true, true, true, true, true, true, true, true, true, true, true, true, true, true, true, false, false, false, false, false, false] rfl rfl (one_of HT_.out (by kernel_rfl)) (by decide) (fun K hK => ?_)
    refine goes_ Try.func84 (by kernel_rfl) rfl #[.agg #[.slice (some ad166) t160.length co13, .int .i64 t163, .bool true], .int .i64 ((rd_T69 t160 t163).f0), .int .i64 t163] (by rfl) rfl rfl (by (try simp only [List.map_toArray, List.map_cons, List.map_nil]); first | done | rfl | (simp only [List.length_drop, List.length_take]; rfl)) ?_
    with_reducible refine (tree_step.calls _ _ t160 t163 true ((rd_T69 t160 t163).f0) t163 t167 t170 t171 t172 _ ?side1 ?side2 A6.out).mono ?_
    (case side1 => repeat (first | exact (Kd.V_reads' HO162.out).2.2 | (with_reducible refine Kd.C_alloc ?_ _) | (with_reducible refine Kd.C_drewN ?_ _) | (with_reducible refine Kd.C_drew ?_)))
    (case side2 => exact (Kd.V_reads' HO162.out).2.1)
    rintro e w19 ⟨v168, rfl, ho0, hb⟩
    have HS3_ := (hb.cell (World.block_lt_of_cell? _ _ (hHeld.2.2.2.1))).trans (hHeld.2.2.2.1)
    have HS4_ := (hb.cell (World.block_lt_of_cell? _ _ (hHeld.2.2.2.2.1))).trans (hHeld.2.2.2.2.1)
    have HS5_ := (hb.cell (World.block_lt_of_cell? _ _ (hHeld.2.2.2.2.2.1))).trans (hHeld.2.2.2.2.2.1)
    have HS6_ := (hb.cell (World.block_lt_of_cell? _ _ (hHeld.2.2.2.2.2.2.1))).trans (hHeld.2.2.2.2.2.2.1)
    have HS7_ := (hb.cell (World.block_lt_of_cell? _ _ (hHeld.2.2.2.2.2.2.2.1))).trans (hHeld.2.2.2.2.2.2.2.1)
    have HS8_ := (hb.cell (World.block_lt_of_cell? _ _ (hHeld.2.2.2.2.2.2.2.2.1))).trans (hHeld.2.2.2.2.2.2.2.2.1)
    have HS9_ := (hb.cell (World.block_lt_of_cell? _ _ (hHeld.2.2.2.2.2.2.2.2.2))).trans (hHeld.2.2.2.2.2.2.2.2.2)
    refine ⟨_, rfl, ?_⟩
    have n0_ := Aside0.mk (Kd.V_elder' (vw_ HO162.out) (Kd.R_base ho0) hb)
    have n1_ := Aside0.mk (Kd.R_lower ho0 (below_size (hb_ HB)))
    have n2_ := bb_ BK158 hb
    have n3_ := bb_ BK159 hb
    have n4_ := bb_ BK165 hb
    have n5_ := bs_ HB hb
    clear HO162
    clear BK158
    clear BK159
    clear BK165
    clear HB
    have HO162 := n0_
    have HO169 := n1_
    have BK158 := n2_
    have BK159 := n3_
    have BK165 := n4_
    have HB := n5_
    clear n0_ n1_ n2_ n3_ n4_ n5_
    (try clear hb)
    (try clear hb2)
    (try clear hk)
    (try clear hi)
    (try clear ho0)
    obtain ⟨Ao20, co20, eo20⟩ := Kd.R_slice HO169.out
    (first | subst eo20 | (injection eo20 with f1_ f2_ f3_; have f4_ := f1_.symm; have f5_ := f3_.symm; clear f1_ f2_ f3_; subst f4_; subst f5_))
    refine hK.out _ _ ⟨(blk_cell BK165.out 0).trans rfl, (blk_cell BK165.out 1).trans rfl, (blk_cell BK165.out 2).trans rfl, HS3_, HS4_, HS5_, HS6_, HS7_, HS8_, HS9_⟩ (fun hHeld => ?_)
    clear hK K
    refine norm_ (a' := ?_) ?_ ?_
    rotate_left
    ·show Act.put _ (some 28) _ = _
     simp only [Act.put, List.setIfInBounds_toArray, List.set_cons_zero, List.set_cons_succ, i64_w, i32_w]
     rfl
    refine pp_ (i := 17) (N := some 29) #[true, true, true, true, true, true, true, true, true, true, true, true, true, true, true, true, true, true, false, false, false, false, false] rfl rfl (any_of HT_.out (by kernel_rfl)) (h := ?_)
    refine pp_ (i := 18) (N := some 30) #[true, true, true, true, true, true, true, true, true, true, true, true, true, true, true, true, true, true, true, false, false, false, false] rfl rfl (any_of HT_.out (by kernel_rfl)) (h := ?_)
    refine pp_ (i := 19) (N := some 31) #[true, true, true, true, true, true, true, true, true, true, true, true, true, true, true, true, true, true, true, true, false, false, false] rfl rfl (any_of HT_.out (by kernel_rfl)) (h := ?_)
    refine one_ (i := 20) (N := none) #[true, true, true, true, true, true, true, true, true, true, true, true, true, true, true, true, true, true, true, true, true, false, false] rfl rfl (one_of HT_.out (by kernel_rfl)) (by decide) (fun K hK => ?_)
    have hs21 : w19.cell? ⟨gb159, 0, none⟩ = some (.slice none 0 0) := (blk_cell BK159.out 0).trans rfl
    have hfs21 := blk_frozen BK159.out 0
    have hns21_0 := NB158_159.out
    have hns21_2 := NB165_159.out
    have hms21_0 := NB159_158.out
    have hms21_2 := NB159_165.out
    have hs22 : w19.cell? ⟨gb159, 1, none⟩ = some (.int .i64 0) := (blk_cell BK159.out 1).trans rfl
    have hfs22 := blk_frozen BK159.out 1
    have hns22_0 := NB158_159.out
    have hns22_2 := NB165_159.out
    have hms22_0 := NB159_158.out
    have hms22_2 := NB159_165.out
    refine skip_ (w1 := ?_) (by rfl) rfl ?_ ?_
    rotate_left
    ·go_simp
     rfl
    refine hK.out _ _ ⟨((cell_far (p := ⟨gb159, _, none⟩) NB165_159.out _).trans (((cell_far (p := ⟨gb159, _, none⟩) NB165_159.out _).trans (hHeld.1)))), ((cell_far (p := ⟨gb159, _, none⟩) NB165_159.out _).trans (((cell_far (p := ⟨gb159, _, none⟩) NB165_159.out _).trans (hHeld.2.1)))), ((cell_far (p := ⟨gb159, _, none⟩) NB165_159.out _).trans (((cell_far (p := ⟨gb159, _, none⟩) NB165_159.out _).trans (hHeld.2.2.1)))), ((cell_far (p := ⟨gb159, _, none⟩) (by first | exact Kd.own_blk (Kd.V_away HO162.out (fun _ hk => hk.1.2.1)) | (rw [add_block]; exact Kd.own_blk (Kd.V_away HO162.out (fun _ hk => hk.1.2.1))) | (show (Addr.add _ _).block ≠ _; rw [add_block]; exact Kd.own_blk (Kd.V_away HO162.out (fun _ hk => hk.1.2.1))) | (dsimp only; exact Kd.own_blk (Kd.V_away HO162.out (fun _ hk => hk.1.2.1)))) _).trans (((cell_far (p := ⟨gb159, _, none⟩) (by first | exact Kd.own_blk (Kd.V_away HO162.out (fun _ hk => hk.1.2.1)) | (rw [add_block]; exact Kd.own_blk (Kd.V_away HO162.out (fun _ hk => hk.1.2.1))) | (show (Addr.add _ _).block ≠ _; rw [add_block]; exact Kd.own_blk (Kd.V_away HO162.out (fun _ hk => hk.1.2.1))) | (dsimp only; exact Kd.own_blk (Kd.V_away HO162.out (fun _ hk => hk.1.2.1)))) _).trans (hHeld.2.2.2.1)))), ((cell_far (p := ⟨gb159, _, none⟩) (by first | exact Kd.own_blk (Kd.V_away HO162.out (fun _ hk => hk.1.2.1)) | (rw [add_block]; exact Kd.own_blk (Kd.V_away HO162.out (fun _ hk => hk.1.2.1))) | (show (Addr.add _ _).block ≠ _; rw [add_block]; exact Kd.own_blk (Kd.V_away HO162.out (fun _ hk => hk.1.2.1))) | (dsimp only; exact Kd.own_blk (Kd.V_away HO162.out (fun _ hk => hk.1.2.1)))) _).trans (((cell_far (p := ⟨gb159, _, none⟩) (by first | exact Kd.own_blk (Kd.V_away HO162.out (fun _ hk => hk.1.2.1)) | (rw [add_block]; exact Kd.own_blk (Kd.V_away HO162.out (fun _ hk => hk.1.2.1))) | (show (Addr.add _ _).block ≠ _; rw [add_block]; exact Kd.own_blk (Kd.V_away HO162.out (fun _ hk => hk.1.2.1))) | (dsimp only; exact Kd.own_blk (Kd.V_away HO162.out (fun _ hk => hk.1.2.1)))) _).trans (hHeld.2.2.2.2.1)))), ((cell_far (p := ⟨gb159, _, none⟩) (by first | exact Kd.own_blk (Kd.V_away HO162.out (fun _ hk => hk.1.2.1)) | (rw [add_block]; exact Kd.own_blk (Kd.V_away HO162.out (fun _ hk => hk.1.2.1))) | (show (Addr.add _ _).block ≠ _; rw [add_block]; exact Kd.own_blk (Kd.V_away HO162.out (fun _ hk => hk.1.2.1))) | (dsimp only; exact Kd.own_blk (Kd.V_away HO162.out (fun _ hk => hk.1.2.1)))) _).trans (((cell_far (p := ⟨gb159, _, none⟩) (by first | exact Kd.own_blk (Kd.V_away HO162.out (fun _ hk => hk.1.2.1)) | (rw [add_block]; exact Kd.own_blk (Kd.V_away HO162.out (fun _ hk => hk.1.2.1))) | (show (Addr.add _ _).block ≠ _; rw [add_block]; exact Kd.own_blk (Kd.V_away HO162.out (fun _ hk => hk.1.2.1))) | (dsimp only; exact Kd.own_blk (Kd.V_away HO162.out (fun _ hk => hk.1.2.1)))) _).trans (hHeld.2.2.2.2.2.1)))), ((cell_far (p := ⟨gb159, _, none⟩) (by first | exact Kd.own_blk (Kd.V_away HO162.out (fun _ hk => hk.1.2.1)) | (rw [add_block]; exact Kd.own_blk (Kd.V_away HO162.out (fun _ hk => hk.1.2.1))) | (show (Addr.add _ _).block ≠ _; rw [add_block]; exact Kd.own_blk (Kd.V_away HO162.out (fun _ hk => hk.1.2.1))) | (dsimp only; exact Kd.own_blk (Kd.V_away HO162.out (fun _ hk => hk.1.2.1)))) _).trans (((cell_far (p := ⟨gb159, _, none⟩) (by first | exact Kd.own_blk (Kd.V_away HO162.out (fun _ hk => hk.1.2.1)) | (rw [add_block]; exact Kd.own_blk (Kd.V_away HO162.out (fun _ hk => hk.1.2.1))) | (show (Addr.add _ _).block ≠ _; rw [add_block]; exact Kd.own_blk (Kd.V_away HO162.out (fun _ hk => hk.1.2.1))) | (dsimp only; exact Kd.own_blk (Kd.V_away HO162.out (fun _ hk => hk.1.2.1)))) _).trans (hHeld.2.2.2.2.2.2.1)))), ((cell_far (p := ⟨gb159, _, none⟩) (by first | exact Kd.own_blk (Kd.V_away HO162.out (fun _ hk => hk.1.2.1)) | (rw [add_block]; exact Kd.own_blk (Kd.V_away HO162.out (fun _ hk => hk.1.2.1))) | (show (Addr.add _ _).block ≠ _; rw [add_block]; exact Kd.own_blk (Kd.V_away HO162.out (fun _ hk => hk.1.2.1))) | (dsimp only; exact Kd.own_blk (Kd.V_away HO162.out (fun _ hk => hk.1.2.1)))) _).trans (((cell_far (p := ⟨gb159, _, none⟩) (by first | exact Kd.own_blk (Kd.V_away HO162.out (fun _ hk => hk.1.2.1)) | (rw [add_block]; exact Kd.own_blk (Kd.V_away HO162.out (fun _ hk => hk.1.2.1))) | (show (Addr.add _ _).block ≠ _; rw [add_block]; exact Kd.own_blk (Kd.V_away HO162.out (fun _ hk => hk.1.2.1))) | (dsimp only; exact Kd.own_blk (Kd.V_away HO162.out (fun _ hk => hk.1.2.1)))) _).trans (hHeld.2.2.2.2.2.2.2.1)))), ((cell_far (p := ⟨gb159, _, none⟩) (by first | exact Kd.own_blk (Kd.V_away HO162.out (fun _ hk => hk.1.2.1)) | (rw [add_block]; exact Kd.own_blk (Kd.V_away HO162.out (fun _ hk => hk.1.2.1))) | (show (Addr.add _ _).block ≠ _; rw [add_block]; exact Kd.own_blk (Kd.V_away HO162.out (fun _ hk => hk.1.2.1))) | (dsimp only; exact Kd.own_blk (Kd.V_away HO162.out (fun _ hk => hk.1.2.1)))) _).trans (((cell_far (p := ⟨gb159, _, none⟩) (by first | exact Kd.own_blk (Kd.V_away HO162.out (fun _ hk => hk.1.2.1)) | (rw [add_block]; exact Kd.own_blk (Kd.V_away HO162.out (fun _ hk => hk.1.2.1))) | (show (Addr.add _ _).block ≠ _; rw [add_block]; exact Kd.own_blk (Kd.V_away HO162.out (fun _ hk => hk.1.2.1))) | (dsimp only; exact Kd.own_blk (Kd.V_away HO162.out (fun _ hk => hk.1.2.1)))) _).trans (hHeld.2.2.2.2.2.2.2.2.1)))), ((cell_far (p := ⟨gb159, _, none⟩) (by first | exact Kd.own_blk (Kd.V_away HO162.out (fun _ hk => hk.1.2.1)) | (rw [add_block]; exact Kd.own_blk (Kd.V_away HO162.out (fun _ hk => hk.1.2.1))) | (show (Addr.add _ _).block ≠ _; rw [add_block]; exact Kd.own_blk (Kd.V_away HO162.out (fun _ hk => hk.1.2.1))) | (dsimp only; exact Kd.own_blk (Kd.V_away HO162.out (fun _ hk => hk.1.2.1)))) _).trans (((cell_far (p := ⟨gb159, _, none⟩) (by first | exact Kd.own_blk (Kd.V_away HO162.out (fun _ hk => hk.1.2.1)) | (rw [add_block]; exact Kd.own_blk (Kd.V_away HO162.out (fun _ hk => hk.1.2.1))) | (show (Addr.add _ _).block ≠ _; rw [add_block]; exact Kd.own_blk (Kd.V_away HO162.out (fun _ hk => hk.1.2.1))) | (dsimp only; exact Kd.own_blk (Kd.V_away HO162.out (fun _ hk => hk.1.2.1)))) _).trans (hHeld.2.2.2.2.2.2.2.2.2))))⟩ (fun hHeld => ?_)
    clear hK K
    refine pp_ (i := 21) (N := some 3) #[true, true, true, true, true, true, true, true, true, true, true, true, true, true, true, true, true, true, true, true, true, true, false] rfl rfl (any_of HT_.out (by kernel_rfl)) (h := ?_)
    refine pp_ (i := 22) (N := some 4) #[true, true, true, true, true, true, true, true, true, true, true, true, true, true, true, true, true, true, true, true, true, true, true] rfl rfl (any_of HT_.out (by kernel_rfl)) (h := ?_)
    refine done_ (done_of HT_.out (by kernel_rfl)) ?_
    try go_wp2
    refine bodyPost_ret (results_ctt rfl _ _ gb159 46 #[.slice Ao20 t167.length co20, .int .i64 t170] (0, 0) _ rfl (bp_ BK159.out) Try.underlying46 rfl (by kernel_rfl)) rfl ?_
    exact ⟨_, er_, by (with_reducible repeat (first | apply Kd.R_alloc | apply Kd.R_drewN | apply Kd.R_drew)); exact Kd.R_mono (rf_ (Kd.R_types HO169.out BK159.out (by decide)) (fun _ hk => hk.2)) (fun _ hk => trivial), hb_ HB⟩
   ·rw [if_neg c5] at H
    exact absurd H (by simp)
  ·rw [if_neg c4] at H
   exact absurd H (by simp)
 ·replace c3 := Bool.eq_false_iff.mpr c3
  subst c3
  have H1 : (some (([] : List (S69)), 0, 0, false)) = some (r1, r2, r3, r4) := by rw [if_neg (show ¬ (false = true) by decide)] at H; exact H
  clear H
  have H := H1
  clear H1
  simp only [Option.some.injEq, Prod.mk.injEq] at H
  obtain ⟨rfl, rfl, rfl, rfl⟩ := H
  go_enter Try.func42, Try.ntmps42
  go_wp2_with (first | ((with_reducible refine gate_dst (N := 1) rfl ?_); refine be_ (N := 1) (cs := #[.slice A0_0 l0_0.length c0_0, .int .i64 a0_1]) (t := 46) (h := ?_); intro gb158 hg w23 hbox hb; have BK158 := Aside0.mk (hbox); have GW158 := gw_ HB hg; have GE158 := gw_ HB hg; replace HB := bs_ HB hb; clear hb hbox hg) | ((with_reducible refine gate_dst (N := 2) rfl ?_); refine be_ (N := 2) (cs := #[.slice none 0 0, .int .i64 0]) (t := 46) (h := ?_); intro gb159 hg w24 hbox hb; have BK159 := Aside0.mk (hbox); have GW159 := gw_ HB hg; have GE159 := gw_ HB hg; have NB158_159 := ne_ BK158 hg; have NB159_158 := en_ BK158 hg; replace BK158 := bb_ BK158 hb; replace HB := bs_ HB hb; clear hb hbox hg; have hnb25 := NB158_159.out; have hnc25 := NB159_158.out; obtain ⟨hcz26_0, hcz26_1, hfz26_0, hfz26_1⟩ := bc2_ BK158) | ((with_reducible refine gate_callee (f := 79) rfl ?_); refine ge_ (some 7) rfl rfl Try.func79 (by kernel_rfl) rfl #[.agg #[.slice A0_0 l0_0.length c0_0, .int .i64 a0_1]] rfl (h := ?_); (with_reducible refine (tree_open.calls k (fun k_ => k_ < w.heap.size) _ _ l0_0 a0_1 t160 t163 false _ ?side1 A2.out).mono ?_); (case side1 => exact Kd.V_mk HC0_0.out (Kd.F_below (Kd.C_F k69_heap HR0_0.out) (hb_ HB))); rintro e w27 ⟨v161, rfl, ho0, hb⟩; refine ⟨_, rfl, ?_⟩; have HO162 := Aside0.mk (Kd.V_lower (Kd.V_mono (ok' := fun k_ => k_ ≠ gb158 ∧ k_ ≠ gb159) ho0 (fun k_ hk_ => ⟨Or.elim hk_ (fun hs_ => fun e_ => Nat.not_le.2 hs_ (by rw [e_]; exact GW158.out)) (fun hn_ => (Kd.freshB (g := gb158) (o := .cells #[.slice A0_0 l0_0.length c0_0, .int .i64 a0_1] 46 (0, 0)) (bw_ BK158.out) k_ hn_)), Or.elim hk_ (fun hs_ => fun e_ => Nat.not_le.2 hs_ (by rw [e_]; exact GW159.out)) (fun hn_ => (Kd.freshB (g := gb159) (o := .cells #[.slice none 0 0, .int .i64 0] 46 (0, 0)) (bw_ BK159.out) k_ hn_))⟩)) (below_size (hb_ HB))); replace BK158 := bb_ BK158 hb; replace BK159 := bb_ BK159 hb; replace HB := bs_ HB hb; (try clear hb); (try clear hb2); (try clear hk); (try clear hi); (try clear ho0)) | ((with_reducible refine gate_dst (N := 5) rfl ?_); refine be_ (N := 5) (cs := #[.slice none 0 0, .int .i64 0, .bool false]) (t := 104) (h := ?_); intro gb165 hg w28 hbox hb; have BK165 := Aside0.mk (hbox); have GW165 := gw_ HB hg; have GE165 := gw_ HB hg; have NB158_165 := ne_ BK158 hg; have NB165_158 := en_ BK158 hg; have NB159_165 := ne_ BK159 hg; have NB165_159 := en_ BK159 hg; replace HO162 := Aside0.mk (Kd.V_below (Kd.V_elderB (vw_ HO162.out) gb165 (Nat.le_of_eq hg.symm)) hb); replace BK158 := bb_ BK158 hb; replace BK159 := bb_ BK159 hb; replace HB := bs_ HB hb; clear hb hbox hg; obtain ⟨Ao29, co29, eo29⟩ := Kd.V_slice HO162.out; subst eo29; have hnb30 := NB165_158.out; have hnc30 := NB158_165.out; have hnb31 := NB165_159.out; have hnc31 := NB159_165.out; obtain ⟨hcz32_0, hcz32_1, hcz32_2, hfz32_0, hfz32_1, hfz32_2⟩ := bc3_ BK165; obtain ⟨hcz33_0, hcz33_1, hfz33_0, hfz33_1⟩ := bc2_ BK159))
  refine bodyPost_ret (results_ctt rfl _ _ gb159 46 #[.slice none 0 0, .int .i64 0] (0, 0) _ rfl (bp_ BK159.out) Try.underlying46 rfl (by kernel_rfl)) rfl ?_
  exact ⟨_, er_, by first | exact Kd.R_nil _ _ _ _ _ | exact Kd.N_nil _ _ _ _ _ | exact Kd.V_nil _ _ _ _ _ | exact Kd.Q_nil _ _ _ _ _ | exact Kd.S_nil _ _ _ _ _, hb_ HB⟩

/-! ### calamusref01_Same: function 46 -/
def calamusref01_Same.l0 : Nat → List Int → List Int → Int → Option (Bool)
 | 0, _, _, _ => none
 | k + 1, x0, x1, x5 => if x5 < (x0.length : Int) then (if 0 ≤ x5 then (if x5 < (x1.length : Int) then (if (rd x0 x5) = (rd x1 x5) then (calamusref01_Same.l0 k x0 x1 (wrap64 (x5 + 1))) else (some false)) else (none)) else (none)) else (some true)
def calamusref01_Same.f (k : Nat) (l0 : List Int) (l1 : List Int) : Option (Bool) := if (l0.length : Int) = (l1.length : Int) then (calamusref01_Same.l0 k l0 l1 0) else (some false)
theorem calamusref01_Same.mono_l : ∀ k, (∀ y0 y1 y2, LeO (calamusref01_Same.l0 k y0 y1 y2) (calamusref01_Same.l0 (k + 1) y0 y1 y2))
 | 0 => fun _ _ _ r h => by simp [calamusref01_Same.l0] at h
 | k + 1 => by
  have ih0 := calamusref01_Same.mono_l k
  ·intro y0 y1 y2
   unfold calamusref01_Same.l0
   repeat' first
   | (with_reducible exact ih0 _ _ _)
   | (with_reducible exact LeO.refl _)
   | (with_reducible exact LeO.none _)
   | (with_reducible refine LeO.ite ?_ ?_)
   | (with_reducible refine LeO.bind ?_ (fun _ => ?_))
   | exact ih0 _ _ _
   | exact LeO.none _
   | refine LeO.ite ?_ ?_
   | refine LeO.bind ?_ (fun _ => ?_)
theorem calamusref01_Same.mono : ∀ a0 a1 k, LeO (calamusref01_Same.f k a0 a1) (calamusref01_Same.f (k + 1) a0 a1) := by
 intro a0 a1 k
 have ih0 := calamusref01_Same.mono_l k
 unfold calamusref01_Same.f
 repeat' first
   | (with_reducible exact ih0 _ _ _)
   | (with_reducible exact LeO.refl _)
   | (with_reducible exact LeO.none _)
   | (with_reducible refine LeO.ite ?_ ?_)
   | (with_reducible refine LeO.bind ?_ (fun _ => ?_))
   | exact ih0 _ _ _
   | exact LeO.none _
   | refine LeO.ite ?_ ?_
   | refine LeO.bind ?_ (fun _ => ?_)
set_option maxHeartbeats 8000000 in
set_option maxRecDepth 100000 in
theorem calamusref01_Same.calls (k : Nat) (A0 : Option Addr) (c0 : Nat) (l0 : List Int) (A1 : Option Addr) (c1 : Nat) (l1 : List Int) (r : Bool) (w : World) (hr0 : Kd.C (Kd.int .i64) w A0 l0.length l0) (hc0 : l0.length ≤ c0) (hr1 : Kd.C (Kd.int .i64) w A1 l1.length l1) (hc1 : l1.length ≤ c1) (h : calamusref01_Same.f k l0 l1 = some r) :
  Calls Try.prog 46 #[.slice A0 l0.length c0, .slice A1 l1.length c1] w fun e w' => e = .returned (.bool r) ∧ Drawn0 w w' := by
 have HR0 := Aside0.mk hr0
 have HC0 := Aside0.mk hc0
 clear hr0 hc0
 have HR1 := Aside0.mk hr1
 have HC1 := Aside0.mk hc1
 clear hr1 hc1
 have H : (if (l0.length : Int) = (l1.length : Int) then (calamusref01_Same.l0 k l0 l1 0) else (some false)) = some r := h
 clear h
 by_cases c3 : (l0.length : Int) = (l1.length : Int)
 ·rw [if_pos c3] at H
  have c3b0 : ((l0.length : Int) == (l1.length : Int)) = true := beq_iff_eq.mpr c3
  have c3b1 : ((l0.length : Int) != (l1.length : Int)) = false := bne_eq_false_iff_eq.mpr c3
  have c3b2 : (l0.length == l1.length) = true := by first | simpa using c3 | (simp at c3 ⊢; omega)
  clear c3
  have H' := Aside0.mk H
  clear H
  go_enter Try.func46, Try.ntmps46
  go_wp2
  repeat (go_quiet (fail); try go_wp2)
  go_loopg [5] k (fun kq v5 w' => ∃ (x5_1 : Int), v5 = .int .i64 x5_1 ∧ Aside0 (calamusref01_Same.l0 kq l0 l1 x5_1 = some r) ∧ Aside0 (kq ≤ k) ∧ Drawn0 w w')
  case atStart => exact ⟨(0), es_, H', ⟨Nat.le_refl _⟩, by repeat (first | exact Drawn0.refl _ | apply Drawn0.step)⟩
  case round =>
   clear H'
   try clear c3
   try clear c3b0
   try clear c3b1
   try clear c3b2
   obtain ⟨x5_1, rfl, HA, HK1, ⟨m1, rfl⟩⟩ := hrel
   cases gk with
   | zero => exact absurd HA.out (by simp [calamusref01_Same.l0])
   | succ k1 =>
    have H := HA.out
    clear HA
    simp only [calamusref01_Same.l0] at H
    by_cases c4 : x5_1 < (l0.length : Int)
    ·rw [if_pos c4] at H
     have c4b0 : decide (x5_1 < (l0.length : Int)) = true := decide_eq_true c4
     clear c4
     by_cases c5 : 0 ≤ x5_1
     ·rw [if_pos c5] at H
      have c5b0 : decide (0 ≤ x5_1) = true := decide_eq_true c5
      clear c5
      by_cases c6 : x5_1 < (l1.length : Int)
      ·rw [if_pos c6] at H
       have c6b0 : decide (x5_1 < (l1.length : Int)) = true := decide_eq_true c6
       clear c6
       by_cases c7 : (rd l0 x5_1) = (rd l1 x5_1)
       ·rw [if_pos c7] at H
        have c7b0 : ((rd l0 x5_1) == (rd l1 x5_1)) = true := beq_iff_eq.mpr c7
        have c7b1 : ((rd l0 x5_1) != (rd l1 x5_1)) = false := bne_eq_false_iff_eq.mpr c7
        clear c7
        have H' := Aside0.mk H
        clear H
        have p173 : 0 ≤ (x5_1 : Int) := of_decide_eq_true as_
        have q173 : x5_1 < (l0.length : Int) := of_decide_eq_true as_
        obtain ⟨ad173, e173, hx173_0⟩ := Kd.at_int HR0.out x5_1 p173 q173
        cases e173
        replace p173 := eq_true p173
        replace q173 := eq_true q173
        have p174 : 0 ≤ (x5_1 : Int) := of_decide_eq_true as_
        have q174 : x5_1 < (l1.length : Int) := of_decide_eq_true as_
        obtain ⟨ad174, e174, hx174_0⟩ := Kd.at_int HR1.out x5_1 p174 q174
        cases e174
        replace p174 := eq_true p174
        replace q174 := eq_true q174
        go_wp2
        repeat (go_quiet (fail); try go_wp2)
        go_roundg k1
        case measure => have := HK1.out; omega
        case rel => exact ⟨(wrap64 (x5_1 + 1)), es_, H', ⟨by have := HK1.out; omega⟩, by repeat (first | exact Drawn0.refl _ | apply Drawn0.step)⟩
       ·rw [if_neg c7] at H
        have c7b0 : ((rd l0 x5_1) == (rd l1 x5_1)) = false := beq_eq_false_iff_ne.mpr c7
        have c7b1 : ((rd l0 x5_1) != (rd l1 x5_1)) = true := bne_iff_ne.mpr c7
        obtain rfl := Option.some.inj H
        have p173 : 0 ≤ (x5_1 : Int) := of_decide_eq_true as_
        have q173 : x5_1 < (l0.length : Int) := of_decide_eq_true as_
        obtain ⟨ad173, e173, hx173_0⟩ := Kd.at_int HR0.out x5_1 p173 q173
        cases e173
        replace p173 := eq_true p173
        replace q173 := eq_true q173
        have p174 : 0 ≤ (x5_1 : Int) := of_decide_eq_true as_
        have q174 : x5_1 < (l1.length : Int) := of_decide_eq_true as_
        obtain ⟨ad174, e174, hx174_0⟩ := Kd.at_int HR1.out x5_1 p174 q174
        cases e174
        replace p174 := eq_true p174
        replace q174 := eq_true q174
        go_wp2
        repeat (go_quiet (fail); try go_wp2)
        go_ret
        exact ⟨by first | rfl | (simp; done) | (simp [*]; done), by repeat (first | exact Drawn0.refl _ | apply Drawn0.step)⟩
      ·rw [if_neg c6] at H
       exact absurd H (by simp)
     ·rw [if_neg c5] at H
      exact absurd H (by simp)
    ·rw [if_neg c4] at H
     have c4b0 : decide (x5_1 < (l0.length : Int)) = false := decide_eq_false c4
     clear c4
     obtain rfl := Option.some.inj H
     go_wp2
     repeat (go_quiet (fail); try go_wp2)
     go_ret
     exact ⟨by first | rfl | (simp; done) | (simp [*]; done), by repeat (first | exact Drawn0.refl _ | apply Drawn0.step)⟩
 ·rw [if_neg c3] at H
  have c3b0 : ((l0.length : Int) == (l1.length : Int)) = false := beq_eq_false_iff_ne.mpr c3
  have c3b1 : ((l0.length : Int) != (l1.length : Int)) = true := bne_iff_ne.mpr c3
  have c3b2 : (l0.length == l1.length) = false := by first | simpa using c3 | (simp at c3 ⊢; omega)
  obtain rfl := Option.some.inj H
  go_enter Try.func46, Try.ntmps46
  go_wp2
  repeat (go_quiet (fail); try go_wp2)
  go_ret
  exact ⟨by first | rfl | (simp; done) | (simp [*]; done), by repeat (first | exact Drawn0.refl _ | apply Drawn0.step)⟩

/-! ### tree_Kids: function 47 -/
mutual
def tree_Kids.j0 : Nat → Int → Bool → List (S69) → Int → Bool → Option (List Int)
 | 0, _, _, _, _, _ => none
 | k + 1, x1, x20, x182000, x182001, x182002 => if x20 = true then (some ([] : List Int)) else (tree_Kids.l0 k x1 ([] : List Int) x182000 (x182000.length : Int) 0)
def tree_Kids.l0 : Nat → Int → List Int → List (S69) → Int → Int → Option (List Int)
 | 0, _, _, _, _, _ => none
 | k + 1, x1, x6, x24, x25, x26 => if x26 < x25 then (if 0 ≤ x26 then (if x26 < (x24.length : Int) then (if ((rd_T69 x24 x26).f0) = x1 then (if x6.length < 17592186044416 then (tree_Kids.l0 k x1 (x6 ++ [x26]) x24 x25 (wrap64 (x26 + 1))) else (none)) else (tree_Kids.l0 k x1 x6 x24 x25 (wrap64 (x26 + 1)))) else (none)) else (none)) else (some x6)
end
def tree_Kids.f (k : Nat) (l0_0 : List (S69)) (a0_1 : Int) (a1 : Int) : Option (List Int) := (tree_open.f k l0_0 a0_1).bind fun bt176 => (if bt176.2.2 = true then ((tree_book_has.f bt176.1 bt176.2.1 a1).bind fun t182 => (tree_Kids.j0 k a1 (!t182) bt176.1 bt176.2.1 bt176.2.2)) else (tree_Kids.j0 k a1 true bt176.1 bt176.2.1 bt176.2.2))
theorem tree_Kids.mono_l : ∀ k, (∀ y0 y1 y2 y3 y4, LeO (tree_Kids.j0 k y0 y1 y2 y3 y4) (tree_Kids.j0 (k + 1) y0 y1 y2 y3 y4)) ∧ (∀ y0 y1 y2 y3 y4, LeO (tree_Kids.l0 k y0 y1 y2 y3 y4) (tree_Kids.l0 (k + 1) y0 y1 y2 y3 y4))
 | 0 => ⟨fun _ _ _ _ _ r h => by simp [tree_Kids.j0] at h, fun _ _ _ _ _ r h => by simp [tree_Kids.l0] at h⟩
 | k + 1 => by
  obtain ⟨ih0, ih1⟩ := tree_Kids.mono_l k
  refine ⟨?_, ?_⟩
  ·intro y0 y1 y2 y3 y4
   unfold tree_Kids.j0
   repeat' first
   | (with_reducible exact ih0 _ _ _ _ _)
   | (with_reducible exact ih1 _ _ _ _ _)
   | (with_reducible exact tree_open.mono _ _ _)
   | (with_reducible exact LeO.refl _)
   | (with_reducible exact LeO.none _)
   | (with_reducible refine LeO.ite ?_ ?_)
   | (with_reducible refine LeO.bind ?_ (fun _ => ?_))
   | exact ih0 _ _ _ _ _
   | exact ih1 _ _ _ _ _
   | exact tree_open.mono _ _ _
   | exact LeO.none _
   | refine LeO.ite ?_ ?_
   | refine LeO.bind ?_ (fun _ => ?_)
  ·intro y0 y1 y2 y3 y4
   unfold tree_Kids.l0
   repeat' first
   | (with_reducible exact ih0 _ _ _ _ _)
   | (with_reducible exact ih1 _ _ _ _ _)
   | (with_reducible exact tree_open.mono _ _ _)
   | (with_reducible exact LeO.refl _)
   | (with_reducible exact LeO.none _)
   | (with_reducible refine LeO.ite ?_ ?_)
   | (with_reducible refine LeO.bind ?_ (fun _ => ?_))
   | exact ih0 _ _ _ _ _
   | exact ih1 _ _ _ _ _
   | exact tree_open.mono _ _ _
   | exact LeO.none _
   | refine LeO.ite ?_ ?_
   | refine LeO.bind ?_ (fun _ => ?_)
theorem tree_Kids.mono : ∀ a0 a1 a2 k, LeO (tree_Kids.f k a0 a1 a2) (tree_Kids.f (k + 1) a0 a1 a2) := by
 intro a0 a1 a2 k
 obtain ⟨ih0, ih1⟩ := tree_Kids.mono_l k
 unfold tree_Kids.f
 repeat' first
   | (with_reducible exact ih0 _ _ _ _ _)
   | (with_reducible exact ih1 _ _ _ _ _)
   | (with_reducible exact tree_open.mono _ _ _)
   | (with_reducible exact LeO.refl _)
   | (with_reducible exact LeO.none _)
   | (with_reducible refine LeO.ite ?_ ?_)
   | (with_reducible refine LeO.bind ?_ (fun _ => ?_))
   | exact ih0 _ _ _ _ _
   | exact ih1 _ _ _ _ _
   | exact tree_open.mono _ _ _
   | exact LeO.none _
   | refine LeO.ite ?_ ?_
   | refine LeO.bind ?_ (fun _ => ?_)
set_option maxHeartbeats 8000000 in
set_option maxRecDepth 100000 in
theorem tree_Kids.calls (k : Nat) (A0_0 : Option Addr) (c0_0 : Nat) (l0_0 : List (S69)) (a0_1 : Int) (a1 : Int) (r : List Int) (w : World) (hr0_0 : Kd.C k69 w A0_0 l0_0.length l0_0) (hc0_0 : l0_0.length ≤ c0_0) (h : tree_Kids.f k l0_0 a0_1 a1 = some r) :
  Calls Try.prog 47 #[.agg #[.slice A0_0 l0_0.length c0_0, .int .i64 a0_1], .int .i64 a1] w fun e w' => ∃ v0_ : Value, e = .returned (v0_) ∧ Kd.R (Kd.int .i64) 3 w' w.heap.size (fun _ => True) v0_ r ∧ Below w.heap.size w w' := by
 have hu46 := Try.underlying46
 have hu104 := Try.underlying104
 have hu102 := Try.underlying102
 have hu69 := Try.underlying69
 have HR0_0 := Aside0.mk hr0_0
 have HC0_0 := Aside0.mk hc0_0
 clear hr0_0 hc0_0
 have HB := Aside0.mk (Below.refl w.heap.size w)
 have H : ((tree_open.f k l0_0 a0_1).bind fun bt176 => (if bt176.2.2 = true then ((tree_book_has.f bt176.1 bt176.2.1 a1).bind fun t182 => (tree_Kids.j0 k a1 (!t182) bt176.1 bt176.2.1 bt176.2.2)) else (tree_Kids.j0 k a1 true bt176.1 bt176.2.1 bt176.2.2))) = some r := h
 clear h
 replace H := Option.bind_eq_some_iff.mp H
 obtain ⟨⟨t176, t179, t180⟩, A30, H⟩ := H
 replace H : (if t180 = true then ((tree_book_has.f t176 t179 a1).bind fun t182 => (tree_Kids.j0 k a1 (!t182) t176 t179 t180)) else (tree_Kids.j0 k a1 true t176 t179 t180)) = some r := H
 have A3 := Aside0.mk A30
 clear A30
 have HC4 := Aside0.mk H
 clear H
 go_enter Try.func47, Try.ntmps47
 go_upto_region 2 with (first | ((with_reducible refine gate_dst (N := 2) rfl ?_); refine be_ (N := 2) (cs := #[.slice A0_0 l0_0.length c0_0, .int .i64 a0_1]) (t := 46) (h := ?_); intro gb175 hg w5 hbox hb; have BK175 := Aside0.mk (hbox); have GW175 := gw_ HB hg; have GE175 := gw_ HB hg; replace HB := bs_ HB hb; clear hb hbox hg; obtain ⟨hcz6_0, hcz6_1, hfz6_0, hfz6_1⟩ := bc2_ BK175) | ((with_reducible refine gate_callee (f := 79) rfl ?_); refine ge_ (some 10) rfl rfl Try.func79 (by kernel_rfl) rfl #[.agg #[.slice A0_0 l0_0.length c0_0, .int .i64 a0_1]] rfl (h := ?_); (with_reducible refine (tree_open.calls k (fun k_ => k_ < w.heap.size) _ _ l0_0 a0_1 t176 t179 t180 _ ?side1 A3.out).mono ?_); (case side1 => exact Kd.V_mk HC0_0.out (Kd.F_below (Kd.C_F k69_heap HR0_0.out) (hb_ HB))); rintro e w7 ⟨v177, rfl, ho0, hb⟩; refine ⟨_, rfl, ?_⟩; have HO178 := Aside0.mk (Kd.V_lower (Kd.V_mono (ok' := fun k_ => k_ ≠ gb175) ho0 (fun k_ hk_ => Or.elim hk_ (fun hs_ => fun e_ => Nat.not_le.2 hs_ (by rw [e_]; exact GW175.out)) (fun hn_ => (Kd.freshB (g := gb175) (o := .cells #[.slice A0_0 l0_0.length c0_0, .int .i64 a0_1] 46 (0, 0)) (bw_ BK175.out) k_ hn_)))) (below_size (hb_ HB))); replace BK175 := bb_ BK175 hb; replace HB := bs_ HB hb; (try clear hb); (try clear hb2); (try clear hk); (try clear hi); (try clear ho0)) | ((with_reducible refine gate_dst (N := 5) rfl ?_); refine be_ (N := 5) (cs := #[.slice none 0 0, .int .i64 0, .bool false]) (t := 104) (h := ?_); intro gb181 hg w8 hbox hb; have BK181 := Aside0.mk (hbox); have GW181 := gw_ HB hg; have GE181 := gw_ HB hg; have NB175_181 := ne_ BK175 hg; have NB181_175 := en_ BK175 hg; replace HO178 := Aside0.mk (Kd.V_below (Kd.V_elderB (vw_ HO178.out) gb181 (Nat.le_of_eq hg.symm)) hb); replace BK175 := bb_ BK175 hb; replace HB := bs_ HB hb; clear hb hbox hg; obtain ⟨Ao9, co9, eo9⟩ := Kd.V_slice HO178.out; subst eo9; have hnb10 := NB181_175.out; have hnc10 := NB175_181.out; obtain ⟨hcz11_0, hcz11_1, hcz11_2, hfz11_0, hfz11_1, hfz11_2⟩ := bc3_ BK181))
 (try simp only [Act.put, List.setIfInBounds_toArray, List.set_cons_zero, List.set_cons_succ])
 go_cut [20] (fun v20 wc => ∃ (kq : Nat) (x20_3 : Bool), v20 = .bool x20_3 ∧ Aside0 (tree_Kids.j0 kq a1 x20_3 t176 t179 t180 = some r) ∧ Aside0 (kq ≤ k) ∧ Aside0 (Kd.V k69 69 wc w.heap.size (fun k_ => k_ ≠ gb175 ∧ k_ ≠ gb181) (.slice Ao9 t176.length co9) t176) ∧ Aside0 (wc.heap[gb175]? = some (.cells #[(.slice A0_0 l0_0.length c0_0), .int .i64 a0_1] 46 (0, 0))) ∧ Aside0 (wc.heap[gb181]? = some (.cells #[(.slice Ao9 t176.length co9), .int .i64 t179, .bool t180] 104 (0, 0))) ∧ Aside0 (Below w.heap.size w wc))
 case first =>
  have H := HC4.out
  clear HC4
  by_cases c12 : t180 = true
  ·subst c12
   have H1 : ((tree_book_has.f t176 t179 a1).bind fun t182 => (tree_Kids.j0 k a1 (!t182) t176 t179 true)) = some r := by rw [if_pos rfl] at H; exact H
   clear H
   have H := H1
   clear H1
   replace H := Option.bind_eq_some_iff.mp H
   obtain ⟨t182, A130, H⟩ := H
   replace H : (tree_Kids.j0 k a1 (!t182) t176 t179 true) = some r := H
   have A13 := Aside0.mk A130
   clear A130
   have H' := Aside0.mk H
   clear H
   have hnb14 := NB181_175.out
   have hnc14 := NB175_181.out
   obtain ⟨hcz15_0, hcz15_1, hcz15_2, hfz15_0, hfz15_1, hfz15_2⟩ := bc3_ BK181
   go_wp2_with (first | (go_at_call 85; (with_reducible refine (tree_book_has.calls _ _ t176 t179 a1 t182 _ ?side1 ?side2 A13.out).mono ?_); (case side1 => refine (Kd.V_reads' (e := 69) (base := w.heap.size) (ok := fun k_ => (k_ ≠ gb175 ∧ k_ ≠ gb181)) (n := t176.length) (c := co9) ?_).2.2; exact (by (with_reducible repeat (first | apply Kd.V_alloc | apply Kd.V_drewN | apply Kd.V_drew)); exact (Kd.V_mono (vf_ (Kd.V_mono HO178.out (fun k_ hk => (⟨hk, hk.2⟩ : _ ∧ k_ ≠ gb181))) (fun _ hk => hk.2)) (fun _ h_ => h_.1)))); (case side2 => exact (Kd.V_reads' HO178.out).2.1); rintro e w16 ⟨rfl, hb⟩; replace HO178 := Aside0.mk (Kd.V_below (by (with_reducible repeat (first | apply Kd.V_alloc | apply Kd.V_drewN | apply Kd.V_drew)); exact (Kd.V_mono (vf_ (Kd.V_mono HO178.out (fun k_ hk => (⟨hk, hk.2⟩ : _ ∧ k_ ≠ gb181))) (fun _ hk => hk.2)) (fun _ h_ => h_.1))) hb); replace BK175 := Aside0.mk (blk_below (g := gb175) (o := .cells #[.slice A0_0 l0_0.length c0_0, .int .i64 a0_1] 46 (0, 0)) (bp_ BK175.out) hb); replace BK181 := Aside0.mk (blk_below (g := gb181) (o := .cells #[.slice Ao9 t176.length co9, .int .i64 t179, .bool true] 104 (0, 0)) (bp_ BK181.out) hb); replace HB := bs_ HB hb; (try clear hb); (try clear hb2); (try clear hk); (try clear hi)))
   go_meet
   case rel => exact ⟨_, (!t182), es_, H', ⟨by first | omega | exact Nat.le_refl _⟩, ⟨vw_ HO178.out⟩, ⟨bw_ BK175.out⟩, ⟨bw_ BK181.out⟩, ⟨hb_ HB⟩⟩
  ·replace c12 := Bool.eq_false_iff.mpr c12
   subst c12
   have H1 : (tree_Kids.j0 k a1 true t176 t179 false) = some r := by rw [if_neg (show ¬ (false = true) by decide)] at H; exact H
   clear H
   have H := H1
   clear H1
   have H' := Aside0.mk H
   clear H
   have hnb17 := NB181_175.out
   have hnc17 := NB175_181.out
   obtain ⟨hcz18_0, hcz18_1, hcz18_2, hfz18_0, hfz18_1, hfz18_2⟩ := bc3_ BK181
   go_wp2
   go_meet
   case rel => exact ⟨_, (true), es_, H', ⟨by first | omega | exact Nat.le_refl _⟩, ⟨by (with_reducible repeat (first | apply Kd.V_alloc | apply Kd.V_drewN | apply Kd.V_drew)); exact Kd.V_mono (vf_ (Kd.V_mono HO178.out (fun k_ hk => (⟨hk, hk.2⟩ : _ ∧ k_ ≠ gb181))) (fun _ hk => hk.2)) (fun _ hk => ⟨hk.1.1, hk.1.2⟩)⟩, ⟨bp_ BK175.out⟩, ⟨bp_ BK181.out⟩, ⟨hb_ HB⟩⟩
 case rest =>
  clear HC4
  try clear hcz11_0
  try clear hcz11_1
  try clear hcz11_2
  try clear hcz6_0
  try clear hcz6_1
  try clear hfz11_0
  try clear hfz11_1
  try clear hfz11_2
  try clear hfz6_0
  try clear hfz6_1
  obtain ⟨kq, x20_3, rfl, HA, HJ3, HO_182000, BK175, BK181, HB⟩ := hcut
  cases kq with
  | zero => exact absurd HA.out (by simp [tree_Kids.j0])
  | succ kj3 =>
   have H := HA.out
   clear HA
   simp only [tree_Kids.j0] at H
   by_cases c19 : x20_3 = true
   ·subst c19
    have H1 : (some ([] : List Int)) = some r := by rw [if_pos rfl] at H; exact H
    clear H
    have H := H1
    clear H1
    obtain rfl := Option.some.inj H
    go_wp2
    go_ret
    exact ⟨_, er_, by first | exact Kd.R_nil _ _ _ _ _ | exact Kd.N_nil _ _ _ _ _ | exact Kd.V_nil _ _ _ _ _ | exact Kd.Q_nil _ _ _ _ _ | exact Kd.S_nil _ _ _ _ _, hb_ HB⟩
   ·replace c19 := Bool.eq_false_iff.mpr c19
    subst c19
    have H1 : (tree_Kids.l0 kj3 a1 ([] : List Int) t176 (t176.length : Int) 0) = some r := by rw [if_neg (show ¬ (false = true) by decide)] at H; exact H
    clear H
    have H := H1
    clear H1
    have H' := Aside0.mk H
    clear H
    have hnb20 := NB181_175.out
    have hnc20 := NB175_181.out
    obtain ⟨hcz21_0, hcz21_1, hcz21_2, hfz21_0, hfz21_1, hfz21_2⟩ := bc3_ BK181
    go_wp2
    go_loopg [6, 26] kj3 (fun kq v6 v26 w' => ∃ (x6_2 : List Int) (x26_2 : Int), v26 = .int .i64 x26_2 ∧ Aside0 (tree_Kids.l0 kq a1 x6_2 t176 (t176.length : Int) x26_2 = some r) ∧ Aside0 (kq ≤ kj3) ∧ Aside0 (Kd.R (Kd.int .i64) 3 w' w.heap.size (fun _ => True) v6 x6_2) ∧ Aside0 (Kd.V k69 69 w' w.heap.size (fun k_ => some k_ ≠ (v6 : Value).ownBlock ∧ k_ ≠ gb175 ∧ k_ ≠ gb181) (.slice Ao9 t176.length co9) t176) ∧ Aside0 (Kd.V k69 69 w' w.heap.size (fun k_ => some k_ ≠ (v6 : Value).ownBlock ∧ k_ ≠ gb175 ∧ k_ ≠ gb181) (.slice Ao9 t176.length co9) t176) ∧ Aside0 (w'.heap[gb175]? = some (.cells #[(.slice A0_0 l0_0.length c0_0), .int .i64 a0_1] 46 (0, 0))) ∧ Aside0 (w'.heap[gb181]? = some (.cells #[(.slice Ao9 t176.length co9), .int .i64 t179, .bool t180] 104 (0, 0))) ∧ Aside0 (Below w.heap.size w w'))
    case atStart => exact ⟨(([] : List Int)), (0), es_, H', ⟨Nat.le_refl _⟩, ⟨by first | exact Kd.R_nil _ _ _ _ _ | exact Kd.N_nil _ _ _ _ _ | exact Kd.V_nil _ _ _ _ _ | exact Kd.Q_nil _ _ _ _ _ | exact Kd.S_nil _ _ _ _ _⟩, ⟨by (with_reducible repeat (first | apply Kd.V_alloc | apply Kd.V_drewN | apply Kd.V_drew)); exact Kd.V_mono HO_182000.out (fun _ hk => ⟨(by simp [Value.ownBlock]), ⟨hk.1, hk.2⟩⟩)⟩, ⟨by (with_reducible repeat (first | apply Kd.V_alloc | apply Kd.V_drewN | apply Kd.V_drew)); exact Kd.V_mono HO_182000.out (fun _ hk => ⟨(by simp [Value.ownBlock]), ⟨hk.1, hk.2⟩⟩)⟩, ⟨bw_ BK175.out⟩, ⟨bw_ BK181.out⟩, ⟨hb_ HB⟩⟩
    case round =>
     clear H'
     try clear c19
     try clear hcz11_0
     try clear hcz11_1
     try clear hcz11_2
     try clear hcz21_0
     try clear hcz21_1
     try clear hcz21_2
     try clear hcz6_0
     try clear hcz6_1
     try clear hfz11_0
     try clear hfz11_1
     try clear hfz11_2
     try clear hfz21_0
     try clear hfz21_1
     try clear hfz21_2
     try clear hfz6_0
     try clear hfz6_1
     obtain ⟨x6_2, x26_2, rfl, HA, HK2, HO_6, HO_24, HO_182000, BK175, BK181, HB⟩ := hrel
     cases gk with
     | zero => exact absurd HA.out (by simp [tree_Kids.l0])
     | succ k2 =>
      have H := HA.out
      clear HA
      simp only [tree_Kids.l0] at H
      by_cases c22 : x26_2 < (t176.length : Int)
      ·rw [if_pos c22] at H
       have c22b0 : decide (x26_2 < (t176.length : Int)) = true := decide_eq_true c22
       clear c22
       by_cases c23 : 0 ≤ x26_2
       ·rw [if_pos c23] at H
        have c23b0 : decide (0 ≤ x26_2) = true := decide_eq_true c23
        clear c23
        by_cases c24 : x26_2 < (t176.length : Int)
        ·rw [if_pos c24] at H
         have c24b0 : decide (x26_2 < (t176.length : Int)) = true := decide_eq_true c24
         clear c24
         by_cases c25 : ((rd_T69 t176 x26_2).f0) = a1
         ·rw [if_pos c25] at H
          have c25b0 : (((rd_T69 t176 x26_2).f0) == a1) = true := beq_iff_eq.mpr c25
          have c25b1 : (((rd_T69 t176 x26_2).f0) != a1) = false := bne_eq_false_iff_eq.mpr c25
          clear c25
          by_cases c26 : x6_2.length < 17592186044416
          ·rw [if_pos c26] at H
           have LMc26 := Aside0.mk c26
           clear c26
           obtain ⟨y185, hy185⟩ : ∃ y_ : List Int, y_ = (x6_2 ++ [x26_2]) := ⟨_, rfl⟩
           replace H : (tree_Kids.l0 k2 a1 y185 t176 (t176.length : Int) (wrap64 (x26_2 + 1))) = some r := th_ H hy185
           have Ny185 := Aside0.mk hy185
           clear hy185
           have H' := Aside0.mk H
           clear H
           have p183 : 0 ≤ (x26_2 : Int) := of_decide_eq_true as_
           have q183 : x26_2 < (t176.length : Int) := of_decide_eq_true as_
           obtain ⟨ad183, e183, hx183_0, hx183_1, hx183_2, hx183_3, hx183_4, hx183_5, hx183_6⟩ := at_T69 (Kd.V_reads' HO_24.out).2.2 x26_2 p183 q183
           cases e183
           replace p183 := eq_true p183
           replace q183 := eq_true q183
           go_wp2_with (first | ((with_reducible refine gate_dst (N := 8) rfl ?_); refine be_ (N := 8) (cs := #[.int .i64 0, .int .i64 0, .int .i64 0, .int .i64 0, .int .i64 0, .string (⟨#[]⟩ : ByteArray), .string (⟨#[]⟩ : ByteArray)]) (t := 69) (h := ?_); intro gb184 hg w27 hbox hb; have BK184 := Aside0.mk (hbox); have GW184 := gw_ HB hg; have GE184 := gw_ HB hg; have NB175_184 := ne_ BK175 hg; have NB184_175 := en_ BK175 hg; have NB181_184 := ne_ BK181 hg; have NB184_181 := en_ BK181 hg; replace HO_6 := Aside0.mk (Kd.R_below (rw_ HO_6.out) hb); replace HO_24 := Aside0.mk (Kd.V_below (Kd.V_elderB (vw_ HO_24.out) gb184 (Nat.le_of_eq hg.symm)) hb); replace HO_182000 := Aside0.mk (Kd.V_below (Kd.V_elderB (vw_ HO_182000.out) gb184 (Nat.le_of_eq hg.symm)) hb); replace BK175 := bb_ BK175 hb; replace BK181 := bb_ BK181 hb; replace HB := bs_ HB hb; clear hb hbox hg; have hnb28 := NB184_175.out; have hnc28 := NB175_184.out; have hnb29 := NB184_181.out; have hnc29 := NB181_184.out; obtain ⟨hcz30_0, hcz30_1, hcz30_2, hcz30_3, hcz30_4, hcz30_5, hcz30_6, hfz30_0, hfz30_1, hfz30_2, hfz30_3, hfz30_4, hfz30_5, hfz30_6⟩ := bc7_ BK184) | ((with_reducible refine gate_builtin (b := .append) (xs := #[.tmp 35, .tmp 37]) rfl ?_); at_builtin; refine Kd.R_append (Kd.int .i64) (w0 := w) w.heap.size rfl (.tmp 35) (.tmp 37) 59 3 (.int .i64 0) 8 rfl Try.underlying59 info3 rfl (by decide) (by omega) u6 x6_2 x26_2 [.int .i64 x26_2] (fun _ => True) (fun _ => False) rfl (by first | (go_simp; done) | (go_simp; rfl)) ?aP (fun _ hk => hk.elim) ?aF ?aO ?aB ?aS ?aL ?_; (case aP => exact rfl); (case aB => exact (hb_ HB)); (case aF => exact (fun _ _ => trivial)); (case aO => exact (by (with_reducible repeat (first | apply Kd.R_alloc | apply Kd.R_drewN | apply Kd.R_drew)); exact Kd.R_mono (rf_ (Kd.R_types HO_6.out BK184.out (by decide)) (fun _ hk => hk.2)) (fun _ hk => trivial))); (case aS => exact (below_size (hb_ HB))); (case aL => have := LMc26.out; omega); intro v186 w31 ho hb hg hat; rw [← Ny185.out] at ho; have n0_ := Aside0.mk (Kd.V_afterv (ok := (fun k_ => k_ ≠ gb175 ∧ k_ ≠ gb181 ∧ k_ ≠ gb184)) (by (with_reducible repeat (first | apply Kd.V_alloc | apply Kd.V_drewN | apply Kd.V_drew)); exact Kd.V_mono (vf_ (Kd.V_mono HO_24.out (fun k_ hk => (⟨hk, hk.2⟩ : _ ∧ k_ ≠ gb184))) (fun _ hk => hk.2)) (fun _ hk => ⟨⟨hk.1.1.2.1, ⟨hk.1.1.2.2, hk.1.2⟩⟩, hk.1.1.1⟩)) hg hat); have n1_ := Aside0.mk (Kd.V_afterv (ok := (fun k_ => k_ ≠ gb175 ∧ k_ ≠ gb181 ∧ k_ ≠ gb184)) (by (with_reducible repeat (first | apply Kd.V_alloc | apply Kd.V_drewN | apply Kd.V_drew)); exact Kd.V_mono (vf_ (Kd.V_mono HO_182000.out (fun k_ hk => (⟨hk, hk.2⟩ : _ ∧ k_ ≠ gb184))) (fun _ hk => hk.2)) (fun _ hk => ⟨⟨hk.1.1.2.1, ⟨hk.1.1.2.2, hk.1.2⟩⟩, hk.1.1.1⟩)) hg hat); have n2_ := Aside0.mk (blk_grown (g := gb175) (o := .cells #[.slice A0_0 l0_0.length c0_0, .int .i64 a0_1] 46 (0, 0)) (bp_ BK175.out) hg (Kd.R_ne HO_6.out BK175.out (by decide))); have n3_ := Aside0.mk (blk_grown (g := gb181) (o := .cells #[.slice (some ad183) t176.length co9, .int .i64 t179, .bool t180] 104 (0, 0)) (bp_ BK181.out) hg (Kd.R_ne HO_6.out BK181.out (by decide))); have n4_ := Aside0.mk (blk_grown (g := gb184) (o := .cells #[.int .i64 ((rd_T69 t176 x26_2).f0), .int .i64 ((rd_T69 t176 x26_2).f1), .int .i64 ((rd_T69 t176 x26_2).f2), .int .i64 ((rd_T69 t176 x26_2).f3), .int .i64 ((rd_T69 t176 x26_2).f4.f0), .string ((rd_T69 t176 x26_2).f4.f1), .string ((rd_T69 t176 x26_2).f4.f2)] 69 (0, 0)) (bp_ BK184.out) hg (Kd.R_ne HO_6.out BK184.out (by decide))); have n5_ := Aside0.mk (hb); have n6_ := Aside0.mk (ho); clear HO_24; clear HO_182000; clear BK175; clear BK181; clear BK184; clear HB; clear HO_6; have HO_24 := n0_; have HO_182000 := n1_; have BK175 := n2_; have BK181 := n3_; have BK184 := n4_; have HB := n5_; have HO187 := n6_; clear n0_ n1_ n2_ n3_ n4_ n5_ n6_; clear ho hb hg hat))
           go_roundg k2
           case measure => have := HJ3.out; have := HK2.out; omega
           case rel => exact ⟨(y185), (wrap64 (x26_2 + 1)), es_, H', ⟨by have := HJ3.out; have := HK2.out; omega⟩, ⟨rw_ HO187.out⟩, ⟨by (with_reducible repeat (first | apply Kd.V_alloc | apply Kd.V_drewN | apply Kd.V_drew)); exact Kd.V_mono HO_24.out (fun _ hk => ⟨hk.2, ⟨hk.1.1, hk.1.2.1⟩⟩)⟩, ⟨by (with_reducible repeat (first | apply Kd.V_alloc | apply Kd.V_drewN | apply Kd.V_drew)); exact Kd.V_mono HO_182000.out (fun _ hk => ⟨hk.2, ⟨hk.1.1, hk.1.2.1⟩⟩)⟩, ⟨bw_ BK175.out⟩, ⟨bw_ BK181.out⟩, ⟨hb_ HB⟩⟩
          ·rw [if_neg c26] at H
           exact absurd H (by simp)
         ·rw [if_neg c25] at H
          have c25b0 : (((rd_T69 t176 x26_2).f0) == a1) = false := beq_eq_false_iff_ne.mpr c25
          have c25b1 : (((rd_T69 t176 x26_2).f0) != a1) = true := bne_iff_ne.mpr c25
          have H' := Aside0.mk H
          clear H
          have p183 : 0 ≤ (x26_2 : Int) := of_decide_eq_true as_
          have q183 : x26_2 < (t176.length : Int) := of_decide_eq_true as_
          obtain ⟨ad183, e183, hx183_0, hx183_1, hx183_2, hx183_3, hx183_4, hx183_5, hx183_6⟩ := at_T69 (Kd.V_reads' HO_24.out).2.2 x26_2 p183 q183
          cases e183
          replace p183 := eq_true p183
          replace q183 := eq_true q183
          go_wp2_with (first | ((with_reducible refine gate_dst (N := 8) rfl ?_); refine be_ (N := 8) (cs := #[.int .i64 0, .int .i64 0, .int .i64 0, .int .i64 0, .int .i64 0, .string (⟨#[]⟩ : ByteArray), .string (⟨#[]⟩ : ByteArray)]) (t := 69) (h := ?_); intro gb184 hg w32 hbox hb; have BK184 := Aside0.mk (hbox); have GW184 := gw_ HB hg; have GE184 := gw_ HB hg; have NB175_184 := ne_ BK175 hg; have NB184_175 := en_ BK175 hg; have NB181_184 := ne_ BK181 hg; have NB184_181 := en_ BK181 hg; replace HO_6 := Aside0.mk (Kd.R_below (rw_ HO_6.out) hb); replace HO_24 := Aside0.mk (Kd.V_below (Kd.V_elderB (vw_ HO_24.out) gb184 (Nat.le_of_eq hg.symm)) hb); replace HO_182000 := Aside0.mk (Kd.V_below (Kd.V_elderB (vw_ HO_182000.out) gb184 (Nat.le_of_eq hg.symm)) hb); replace BK175 := bb_ BK175 hb; replace BK181 := bb_ BK181 hb; replace HB := bs_ HB hb; clear hb hbox hg; have hnb33 := NB184_175.out; have hnc33 := NB175_184.out; have hnb34 := NB184_181.out; have hnc34 := NB181_184.out; obtain ⟨hcz35_0, hcz35_1, hcz35_2, hcz35_3, hcz35_4, hcz35_5, hcz35_6, hfz35_0, hfz35_1, hfz35_2, hfz35_3, hfz35_4, hfz35_5, hfz35_6⟩ := bc7_ BK184))
          go_roundg k2
          case measure => have := HJ3.out; have := HK2.out; omega
          case rel => exact ⟨(x6_2), (wrap64 (x26_2 + 1)), es_, H', ⟨by have := HJ3.out; have := HK2.out; omega⟩, ⟨by (with_reducible repeat (first | apply Kd.R_alloc | apply Kd.R_drewN | apply Kd.R_drew)); exact Kd.R_mono (rf_ (Kd.R_types HO_6.out BK184.out (by decide)) (fun _ hk => hk.2)) (fun _ hk => trivial)⟩, ⟨by (with_reducible repeat (first | apply Kd.V_alloc | apply Kd.V_drewN | apply Kd.V_drew)); exact Kd.V_mono (vf_ (Kd.V_mono HO_24.out (fun k_ hk => (⟨hk, hk.2⟩ : _ ∧ k_ ≠ gb184))) (fun _ hk => hk.2)) (fun _ hk => ⟨hk.1.1.1, ⟨hk.1.1.2.1, hk.1.1.2.2⟩⟩)⟩, ⟨by (with_reducible repeat (first | apply Kd.V_alloc | apply Kd.V_drewN | apply Kd.V_drew)); exact Kd.V_mono (vf_ (Kd.V_mono HO_182000.out (fun k_ hk => (⟨hk, hk.2⟩ : _ ∧ k_ ≠ gb184))) (fun _ hk => hk.2)) (fun _ hk => ⟨hk.1.1.1, ⟨hk.1.1.2.1, hk.1.1.2.2⟩⟩)⟩, ⟨bp_ BK175.out⟩, ⟨bp_ BK181.out⟩, ⟨hb_ HB⟩⟩
        ·rw [if_neg c24] at H
         exact absurd H (by simp)
       ·rw [if_neg c23] at H
        exact absurd H (by simp)
      ·rw [if_neg c22] at H
       have c22b0 : decide (x26_2 < (t176.length : Int)) = false := decide_eq_false c22
       clear c22
       obtain rfl := Option.some.inj H
       go_wp2
       go_ret
       exact ⟨_, er_, by (with_reducible repeat (first | apply Kd.R_alloc | apply Kd.R_drewN | apply Kd.R_drew)); exact HO_6.out, hb_ HB⟩

end Go.Proofs.Ytkiokimpblimcaa.PTreeAdds
