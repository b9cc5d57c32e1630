/- Of the law calamus/calamuslaw11.TreeAdds: each function as a plain Lean function, with a proof that the call comes to it; the row. By wip/tpl/own_print.py. Conditions: none but the row's own. -/
import Derived.Test.YtkiokimpblimcaaOTreeAddsx0
import Derived.Test.YtkiokimpblimcaaOTreeAddsx3
import Derived.Test.YtkiokimpblimcaaOTreeAddsx4
namespace Go.Proofs.Ytkiokimpblimcaa.PTreeAdds
open Go.RowKit Go.Proofs.YtkiokimpblimcaaW.PrintWords Go.Proofs.YtkiokimpblimcaaW.PrintLast Go.Proofs.YtkiokimpblimcaaW.PrintMore
attribute [local go_sem] max2_int min2_int max_two min_two max_three min_three max_four min_four   -- for this text's walks alone
set_option linter.unusedVariables false
set_option linter.unusedSimpArgs false

/-! ### tree_open: function 79 -/
def tree_open.f (k : Nat) (l0_0 : List (S69)) (a0_1 : Int) : Option ((List (S69)) × Int × Bool) := (tree_check.f k l0_0 a0_1).bind fun t122 => (some (l0_0, a0_1, t122))
theorem tree_open.mono : ∀ a0 a1 k, LeO (tree_open.f k a0 a1) (tree_open.f (k + 1) a0 a1) := by
 intro a0 a1 k
 unfold tree_open.f
 repeat' first
   | (with_reducible exact tree_check.mono _ _ _)
   | (with_reducible exact LeO.refl _)
   | (with_reducible exact LeO.none _)
   | (with_reducible refine LeO.ite ?_ ?_)
   | (with_reducible refine LeO.bind ?_ (fun _ => ?_))
   | exact tree_check.mono _ _ _
   | exact LeO.none _
   | refine LeO.ite ?_ ?_
   | refine LeO.bind ?_ (fun _ => ?_)
set_option maxHeartbeats 8000000 in
set_option maxRecDepth 100000 in
theorem tree_open.calls (k : Nat) (P0_0_ : Nat → Prop) (A0_0 : Option Addr) (c0_0 : Nat) (l0_0 : List (S69)) (a0_1 : Int) (r1 : List (S69)) (r2 : Int) (r3 : Bool) (w : World) (hs0_0 : Kd.V k69 69 w w.heap.size (fun k_ => P0_0_ k_) (.slice A0_0 l0_0.length c0_0) l0_0) (h : tree_open.f k l0_0 a0_1 = some (r1, r2, r3)) :
  Calls Try.prog 79 #[.agg #[.slice A0_0 l0_0.length c0_0, .int .i64 a0_1]] w fun e w' => ∃ v0_ : Value, e = .returned (.agg #[v0_, .int .i64 r2, .bool r3]) ∧ Kd.V k69 69 w' w.heap.size (fun k_ => (P0_0_ k_ ∨ w.heap.size ≤ k_)) v0_ r1 ∧ Below w.heap.size w w' := by
 have hu46 := Try.underlying46
 have hu104 := Try.underlying104
 have hu102 := Try.underlying102
 have HO0_0 := Aside0.mk (show Kd.V k69 69 w w.heap.size (fun k_ => (P0_0_ k_ ∨ w.heap.size ≤ k_)) (.slice A0_0 l0_0.length c0_0) l0_0 from Kd.V_mono hs0_0 (fun k_ hk => .inl hk))
 have HB := Aside0.mk (Below.refl w.heap.size w)
 have H : ((tree_check.f k l0_0 a0_1).bind fun t122 => (some (l0_0, a0_1, t122))) = some (r1, r2, r3) := h
 clear h
 replace H := Option.bind_eq_some_iff.mp H
 obtain ⟨t122, A20, H⟩ := H
 replace H : (some (l0_0, a0_1, t122)) = some (r1, r2, r3) := H
 have A2 := Aside0.mk A20
 clear A20
 simp only [Option.some.injEq, Prod.mk.injEq] at H
 obtain ⟨rfl, rfl, rfl⟩ := H
 go_enter Try.func79, Try.ntmps79
 try go_wp2_with (first | ((with_reducible refine gate_dst (N := 1) rfl ?_); refine be_ (N := 1) (cs := #[.slice A0_0 l0_0.length c0_0, .int .i64 a0_1]) (t := 46) (h := ?_); intro gb119 hg w3 hbox hb; have BK119 := Aside0.mk (hbox); have GW119 := gw_ HB hg; have GE119 := gw_ HB hg; replace HO0_0 := Aside0.mk (Kd.V_below (Kd.V_elderB (vw_ HO0_0.out) gb119 (Nat.le_of_eq hg.symm)) hb); replace HB := bs_ HB hb; clear hb hbox hg) | ((with_reducible refine gate_dst (N := 2) rfl ?_); refine be_ (N := 2) (cs := #[.slice none 0 0, .int .i64 0, .bool false]) (t := 104) (h := ?_); intro gb120 hg w4 hbox hb; have BK120 := Aside0.mk (hbox); have GW120 := gw_ HB hg; have GE120 := gw_ HB hg; have NB119_120 := ne_ BK119 hg; have NB120_119 := en_ BK119 hg; replace HO0_0 := Aside0.mk (Kd.V_below (Kd.V_elderB (vw_ HO0_0.out) gb120 (Nat.le_of_eq hg.symm)) hb); replace BK119 := bb_ BK119 hb; replace HB := bs_ HB hb; clear hb hbox hg; have hnb5 := NB119_120.out; have hnc5 := NB120_119.out; obtain ⟨hcz6_0, hcz6_1, hfz6_0, hfz6_1⟩ := bc2_ BK119) | ((with_reducible refine gate_dst (N := 3) rfl ?_); refine be_ (N := 3) (cs := #[.slice none 0 0, .int .i64 0]) (t := 102) (h := ?_); intro gb121 hg w7 hbox hb; have BK121 := Aside0.mk (hbox); have GW121 := gw_ HB hg; have GE121 := gw_ HB hg; have NB119_121 := ne_ BK119 hg; have NB121_119 := en_ BK119 hg; have NB120_121 := ne_ BK120 hg; have NB121_120 := en_ BK120 hg; replace HO0_0 := Aside0.mk (Kd.V_below (Kd.V_elderB (vw_ HO0_0.out) gb121 (Nat.le_of_eq hg.symm)) hb); replace BK119 := bb_ BK119 hb; replace BK120 := bb_ BK120 hb; replace HB := bs_ HB hb; clear hb hbox hg; have hnb8 := NB121_119.out; have hnc8 := NB119_121.out; have hnb9 := NB121_120.out; have hnc9 := NB120_121.out; obtain ⟨hcz10_0, hcz10_1, hfz10_0, hfz10_1⟩ := bc2_ BK121))
 obtain ⟨w11, hW_⟩ : ∃ x, x = ((w7.setCell ⟨gb121, 0, none⟩ (.slice A0_0 l0_0.length c0_0)).setCell ⟨gb121, 1, none⟩ (.int .i64 a0_1)) := ⟨_, rfl⟩
 have n0_ : Aside0 (Kd.V k69 69 w11 w.heap.size (fun k_ => (P0_0_ k_ ∨ w.heap.size ≤ k_) ∧ k_ ≠ gb119 ∧ k_ ≠ gb120 ∧ k_ ≠ gb121) (.slice A0_0 l0_0.length c0_0) l0_0) := ⟨by rw [hW_]; (with_reducible repeat (first | apply Kd.V_alloc | apply Kd.V_drewN | apply Kd.V_drew)); exact Kd.V_mono (vf_ (Kd.V_mono HO0_0.out (fun k_ hk => (⟨hk, hk.2⟩ : _ ∧ k_ ≠ gb121))) (fun _ hk => hk.2)) (fun _ hk => ⟨hk.1.1.1.1, ⟨hk.1.1.1.2, ⟨hk.1.1.2, hk.1.2⟩⟩⟩)⟩
 have n1_ : Aside0 (w11.heap[gb119]? = some (.cells #[.slice A0_0 l0_0.length c0_0, .int .i64 a0_1] 46 (0, 0))) := ⟨by rw [hW_]; exact bp_ BK119.out⟩
 have n2_ : Aside0 (w11.heap[gb120]? = some (.cells #[.slice none 0 0, .int .i64 0, .bool false] 104 (0, 0))) := ⟨by rw [hW_]; exact bp_ BK120.out⟩
 have n3_ : Aside0 (w11.heap[gb121]? = some (.cells #[.slice A0_0 l0_0.length c0_0, .int .i64 a0_1] 102 (0, 0))) := ⟨by rw [hW_]; exact bp_ BK121.out⟩
 have n4_ : Aside0 (Below w.heap.size w w11) := ⟨by rw [hW_]; exact hb_ HB⟩
 (try clear HO0_0)
 (try clear BK119)
 (try clear BK120)
 (try clear BK121)
 (try clear HB)
 rw [← hW_]; clear hW_
 have HO0_0 := n0_
 have BK119 := n1_
 have BK120 := n2_
 have BK121 := n3_
 have HB := n4_
 clear n0_ n1_ n2_ n3_ n4_
 have n0_ := Aside0.mk (Kd.V_drew HO0_0.out)
 have n1_ := Aside0.mk (blk_drew BK119.out)
 have n2_ := Aside0.mk (blk_drew BK120.out)
 have n3_ := Aside0.mk (blk_drew BK121.out)
 have n4_ := Aside0.mk (below_drew1 HB.out)
 clear HO0_0
 clear BK119
 clear BK120
 clear BK121
 clear HB
 have HO0_0 := n0_
 have BK119 := n1_
 have BK120 := n2_
 have BK121 := n3_
 have HB := n4_
 clear n0_ n1_ n2_ n3_ n4_
 refine start_ (n := 5) (S := fun w' => w'.cell? ⟨gb121, 0, none⟩ = some (.slice A0_0 l0_0.length c0_0) ∧ w'.cell? ⟨gb121, 1, none⟩ = some (.int .i64 a0_1)) (ds := []) #[false, false, false, false, false] (by kernel_rfl) rfl rfl ⟨(blk_cell BK121.out 0).trans rfl, (blk_cell BK121.out 1).trans rfl⟩ (fun hHeld => ?_)
 generalize w11.drew = w12 at HO0_0 BK119 BK120 BK121 HB hHeld ⊢
 refine take_ (i := 0) (N := some 6) (v := ?_) (a' := ?_) #[true, false, false, false, false] rfl rfl (by kernel_rfl) (fun _ _ _ h => h) (Or.inl ⟨by rfl, ?_⟩) hHeld ?_ ?_
 rotate_left
 ·rintro w' ⟨s0, s1⟩
  go_simp
  with_reducible rfl
 rotate_left
 ·simp only [Act.put, List.setIfInBounds_toArray, List.set_cons_zero, List.set_cons_succ, i64_w, i32_w]
  rfl
 refine take_ (i := 1) (N := some 7) (v := ?_) (a' := ?_) #[true, true, false, false, false] rfl rfl (by kernel_rfl) (fun _ _ _ h => h) (Or.inl ⟨by rfl, ?_⟩) hHeld ?_ ?_
 rotate_left
 ·rintro w' ⟨s0, s1⟩
  go_simp
  with_reducible rfl
 rotate_left
 ·simp only [Act.put, List.setIfInBounds_toArray, List.set_cons_zero, List.set_cons_succ, i64_w, i32_w]
  rfl
 refine one_ (i := 2) (N := some 8) #[true, true, true, false, false] rfl rfl (by kernel_rfl) (by decide) (fun K hK => ?_)
 refine goes_ Try.func96 (by kernel_rfl) rfl #[.agg #[.slice A0_0 l0_0.length c0_0, .int .i64 a0_1]] (by rfl) rfl rfl (by (try simp only [List.map_toArray, List.map_cons, List.map_nil]); first | done | rfl | (simp only [List.length_drop, List.length_take]; rfl)) ?_
 with_reducible refine (tree_check.calls k _ _ l0_0 a0_1 t122 _ ?side1 ?side2 A2.out).mono ?_
 (case side1 => repeat (first | exact (Kd.V_reads' HO0_0.out).2.2 | (with_reducible refine Kd.C_alloc ?_ _) | (with_reducible refine Kd.C_drewN ?_ _) | (with_reducible refine Kd.C_drew ?_)))
 (case side2 => exact (Kd.V_reads' HO0_0.out).2.1)
 rintro e w13 ⟨rfl, hb⟩
 refine ⟨_, rfl, ?_⟩
 have n0_ := Aside0.mk (Kd.V_below (vw_ HO0_0.out) hb)
 have n1_ := bb_ BK119 hb
 have n2_ := bb_ BK120 hb
 have n3_ := bb_ BK121 hb
 have n4_ := bs_ HB hb
 clear HO0_0
 clear BK119
 clear BK120
 clear BK121
 clear HB
 have HO0_0 := n0_
 have BK119 := n1_
 have BK120 := n2_
 have BK121 := n3_
 have HB := n4_
 clear n0_ n1_ n2_ n3_ n4_
 (try clear hb)
 (try clear hb2)
 (try clear hk)
 (try clear hi)
 refine hK.out _ _ ⟨(blk_cell BK121.out 0).trans rfl, (blk_cell BK121.out 1).trans rfl⟩ (fun hHeld => ?_)
 clear hK K
 refine norm_ (a' := ?_) ?_ ?_
 rotate_left
 ·show Act.put _ (some 8) _ = _
  simp only [Act.put, List.setIfInBounds_toArray, List.set_cons_zero, List.set_cons_succ, i64_w, i32_w]
  rfl
 refine pure_ (i := 3) (N := some 9) (v := ?_) (a' := ?_) #[true, true, true, true, false] rfl rfl (by kernel_rfl) (fun _ _ _ h => h) (Or.inl ⟨by rfl, ?_⟩) ?_ ?_
 rotate_left
 ·intro w'
  go_simp
  with_reducible rfl
 rotate_left
 ·simp only [Act.put, List.setIfInBounds_toArray, List.set_cons_zero, List.set_cons_succ, i64_w, i32_w]
  rfl
 refine one_ (i := 4) (N := none) #[true, true, true, true, true] rfl rfl (by kernel_rfl) (by decide) (fun K hK => ?_)
 have hs14 : w13.cell? ⟨gb120, 0, none⟩ = some (.slice none 0 0) := (blk_cell BK120.out 0).trans rfl
 have hfs14 := blk_frozen BK120.out 0
 have hns14_0 := NB119_120.out
 have hns14_2 := NB121_120.out
 have hms14_0 := NB120_119.out
 have hms14_2 := NB120_121.out
 have hs15 : w13.cell? ⟨gb120, 1, none⟩ = some (.int .i64 0) := (blk_cell BK120.out 1).trans rfl
 have hfs15 := blk_frozen BK120.out 1
 have hns15_0 := NB119_120.out
 have hns15_2 := NB121_120.out
 have hms15_0 := NB120_119.out
 have hms15_2 := NB120_121.out
 have hs16 : w13.cell? ⟨gb120, 2, none⟩ = some (.bool false) := (blk_cell BK120.out 2).trans rfl
 have hfs16 := blk_frozen BK120.out 2
 have hns16_0 := NB119_120.out
 have hns16_2 := NB121_120.out
 have hms16_0 := NB120_119.out
 have hms16_2 := NB120_121.out
 refine skip_ (w1 := ?_) (by rfl) rfl ?_ ?_
 rotate_left
 ·go_simp
  rfl
 refine hK.out _ _ ⟨((cell_far (p := ⟨gb120, _, none⟩) NB121_120.out _).trans (((cell_far (p := ⟨gb120, _, none⟩) NB121_120.out _).trans (((cell_far (p := ⟨gb120, _, none⟩) NB121_120.out _).trans (hHeld.1)))))), ((cell_far (p := ⟨gb120, _, none⟩) NB121_120.out _).trans (((cell_far (p := ⟨gb120, _, none⟩) NB121_120.out _).trans (((cell_far (p := ⟨gb120, _, none⟩) NB121_120.out _).trans (hHeld.2))))))⟩ (fun hHeld => ?_)
 clear hK K
 refine done_ (by kernel_rfl) ?_
 try go_wp2
 refine bodyPost_ret (results_cell_row rfl _ _ gb120 104 #[.slice A0_0 l0_0.length c0_0, .int .i64 a0_1, .bool t122] (0, 0) _ rfl (bp_ BK120.out) Try.underlying104 rfl (by kernel_rfl)) rfl ?_
 exact ⟨_, er_, by (with_reducible repeat (first | apply Kd.V_alloc | apply Kd.V_drewN | apply Kd.V_drew)); exact Kd.V_mono (vf_ (Kd.V_mono HO0_0.out (fun k_ hk => (⟨hk, hk.2.2.1⟩ : _ ∧ k_ ≠ gb120))) (fun _ hk => hk.2)) (fun _ hk => hk.1.1), hb_ HB⟩

/-! ### api_Node_97: function 97, by hand (slices.Clone.Node.lean) -/
def api_Node_97.f (l0 : List S69) : Option (List S69) := if l0.length < 1954687338268 then some l0 else none

set_option maxHeartbeats 4000000 in
set_option maxRecDepth 100000 in
theorem api_Node_97.calls (A0 : Option Addr) (c0 : Nat) (l0 : List S69) (r : List S69) (w : World) (hr0 : Kd.C k69 w A0 l0.length l0) (hc0 : l0.length ≤ c0) (h : api_Node_97.f l0 = some r) :
  Calls Try.prog 97 #[.slice A0 l0.length c0] w fun e w' => ∃ v0_ : Value, e = .returned (v0_) ∧ Kd.R k69 69 w' w.heap.size (fun _ => True) v0_ r ∧ Below w.heap.size w w' := by
 have huS := Try.underlying44
 have HR0 := Aside0.mk hr0
 have HC0 := Aside0.mk hc0
 clear hr0 hc0
 have HB := Aside0.mk (Below.refl w.heap.size w)
 have hl : l0.length < 1954687338268 ∧ l0 = r := by
  unfold api_Node_97.f at h
  by_cases g : l0.length < 1954687338268
  ·rw [if_pos g] at h; exact ⟨g, Option.some.inj h⟩
  ·rw [if_neg g] at h; exact absurd h (by simp)
 clear h
 obtain ⟨hl, rfl⟩ := hl
 have HL := Aside0.mk hl
 clear hl
 have hq : ∀ W : World, (binOp .eql 44 (.slice A0 l0.length c0) (.slice none 0 0)).run Try.prog W = .ok (.bool A0.isNone) W := fun W => by
  have he : ∀ d : Nat, (Op.equalIn (d + 1) 44 (.slice A0 l0.length c0) (.slice none 0 0)).run Try.prog W = .ok A0.isNone W := fun d => by
   cases A0 <;> simp [Op.equalIn, run_underlying huS]
  simp only [binOp]
  simp [Op.equal, Op.maxDepth, he 9999]
 rcases A0 with _ | ad
 ·have hn : l0 = [] := by
   have := HR0.out.2.2
   cases l0 with
   | nil => rfl
   | cons x t => exact absurd (this (by simp)) (by simp)
  subst hn
  simp only [List.length_nil, Option.isNone_none] at hq
  go_enter Try.func97, Try.ntmps97
  go_wp2
  go_ret
  exact ⟨_, rfl, Kd.R_nil _ _ _ _ _, HB.out⟩
 ·simp only [Option.isNone_some] at hq
  go_enter Try.func97, Try.ntmps97
  go_wp2_with (first | ((with_reducible refine gate_dst (N := 5) rfl ?_); refine Kd.R_lit k69 _ 69 ?hg (N := 5) ?hd (xs := ([] : List (S69))) (inner := []) (ok := fun _ => True) (okp := fun _ => True) ?hr ?hp (fun _ hk => hk) trivial (Below.refl _ _) (Nat.le_refl _) (by simp) ?_; (case hd => rfl); (case hg => rfl); (case hr => first | (go_simp; done) | (go_simp; rfl)); (case hp => exact Reps.none _ _); intro v5 w5 ho hb hg hat; have HO5 := Aside0.mk ho; have HB5 := Aside0.mk hb; clear ho hb hg hat) | ((with_reducible refine gate_builtin (b := .append) (xs := #[.tmp 5, .tmp 6]) rfl ?_); at_builtin; refine Kd.R_append_rows k69 (w0 := w) w.heap.size rfl (.tmp 5) (.tmp 6) 44 69 (.agg #[(.int .i64 0), (.int .i64 0), (.int .i64 0), (.int .i64 0), (.int .i64 0), (.string ⟨#[]⟩), (.string ⟨#[]⟩)]) 72 rfl Try.underlying44 info69 rfl (by decide) (by omega) v5 ([] : List (S69)) l0 _ _ _ (fun _ => True) (fun _ => False) rfl rfl ?aO ?aR (fun _ _ h => h) (fun _ h => h.elim) ?aF ?aB ?aS ?aL ?_; (case aR => exact (Kd.C_below HR0.out HB5.out)); (case aB => exact HB5.out); (case aF => exact (fun _ _ => trivial)); (case aO => exact HO5.out); (case aS => exact below_size HB5.out); (case aL => have := HL.out; simp only [List.length_nil]; omega); intro v7 w7 ho hb hg hat; have HO7 := Aside0.mk ho; have HB7 := Aside0.mk hb; clear ho hb hg hat))
  go_ret
  exact ⟨_, rfl, by simpa using HO7.out, HB7.out⟩

/-! ### tree_book_copy: function 80 -/
def tree_book_copy.f (l0_0 : List (S69)) (a0_1 : Int) : Option ((List (S69)) × Int) := (api_Node_97.f l0_0).bind fun t125 => (some (t125, a0_1))
set_option maxHeartbeats 8000000 in
set_option maxRecDepth 100000 in
theorem tree_book_copy.calls (A0_0 : Option Addr) (c0_0 : Nat) (l0_0 : List (S69)) (a0_1 : Int) (r1 : List (S69)) (r2 : Int) (w : World) (hr0_0 : Kd.C k69 w A0_0 l0_0.length l0_0) (hc0_0 : l0_0.length ≤ c0_0) (h : tree_book_copy.f l0_0 a0_1 = some (r1, r2)) :
  Calls Try.prog 80 #[.agg #[.slice A0_0 l0_0.length c0_0, .int .i64 a0_1]] w fun e w' => ∃ v0_ : Value, e = .returned (.agg #[v0_, .int .i64 r2]) ∧ Kd.R k69 69 w' w.heap.size (fun _ => True) v0_ r1 ∧ Below w.heap.size w w' := by
 have hu102 := Try.underlying102
 have HR0_0 := Aside0.mk hr0_0
 have HC0_0 := Aside0.mk hc0_0
 clear hr0_0 hc0_0
 have HB := Aside0.mk (Below.refl w.heap.size w)
 have H : ((api_Node_97.f l0_0).bind fun t125 => (some (t125, a0_1))) = some (r1, r2) := h
 clear h
 replace H := Option.bind_eq_some_iff.mp H
 obtain ⟨t125, A20, H⟩ := H
 replace H : (some (t125, a0_1)) = some (r1, r2) := H
 have A2 := Aside0.mk A20
 clear A20
 simp only [Option.some.injEq, Prod.mk.injEq] at H
 obtain ⟨rfl, rfl⟩ := H
 go_enter Try.func80, Try.ntmps80
 go_wp2_with (first | ((with_reducible refine gate_dst (N := 1) rfl ?_); refine be_ (N := 1) (cs := #[.slice A0_0 l0_0.length c0_0, .int .i64 a0_1]) (t := 102) (h := ?_); intro gb123 hg w3 hbox hb; have BK123 := Aside0.mk (hbox); have GW123 := gw_ HB hg; have GE123 := gw_ HB hg; replace HB := bs_ HB hb; clear hb hbox hg) | ((with_reducible refine gate_dst (N := 2) rfl ?_); refine be_ (N := 2) (cs := #[.slice none 0 0, .int .i64 0]) (t := 102) (h := ?_); intro gb124 hg w4 hbox hb; have BK124 := Aside0.mk (hbox); have GW124 := gw_ HB hg; have GE124 := gw_ HB hg; have NB123_124 := ne_ BK123 hg; have NB124_123 := en_ BK123 hg; replace BK123 := bb_ BK123 hb; replace HB := bs_ HB hb; clear hb hbox hg; have hnb5 := NB123_124.out; have hnc5 := NB124_123.out; obtain ⟨hcz6_0, hcz6_1, hfz6_0, hfz6_1⟩ := bc2_ BK123) | ((with_reducible refine gate_callee (f := 97) rfl ?_); refine ge_ (some 6) rfl rfl Try.func97 (by kernel_rfl) rfl #[.slice A0_0 l0_0.length c0_0] rfl (h := ?_); (with_reducible refine (api_Node_97.calls _ _ l0_0 t125 _ ?side1 ?side2 A2.out).mono ?_); (case side1 => exact cw_ (Kd.C_below HR0_0.out HB.out)); (case side2 => exact HC0_0.out); rintro e w7 ⟨v126, rfl, ho0, hb⟩; refine ⟨_, rfl, ?_⟩; have HO127 := Aside0.mk (Kd.R_lower ho0 (below_size (hb_ HB))); replace BK123 := bb_ BK123 hb; replace BK124 := bb_ BK124 hb; replace HB := bs_ HB hb; (try clear hb); (try clear hb2); (try clear hk); (try clear hi); (try clear ho0); obtain ⟨Ao8, co8, eo8⟩ := Kd.R_slice HO127.out; subst eo8; obtain ⟨hcz9_0, hcz9_1, hfz9_0, hfz9_1⟩ := bc2_ BK123; obtain ⟨hcz10_0, hcz10_1, hfz10_0, hfz10_1⟩ := bc2_ BK124))
 refine bodyPost_ret (results_cell_row rfl _ _ gb124 102 #[.slice Ao8 t125.length co8, .int .i64 a0_1] (0, 0) _ rfl (bp_ BK124.out) Try.underlying102 rfl (by kernel_rfl)) rfl ?_
 exact ⟨_, er_, by (with_reducible repeat (first | apply Kd.R_alloc | apply Kd.R_drewN | apply Kd.R_drew)); exact Kd.R_mono (rf_ (Kd.R_far (p := ⟨gb123, 0, none⟩) (Kd.R_types (Kd.R_types HO127.out BK123.out (by decide)) BK124.out (by decide)) (fun _ hk => hk.1.2) (.slice Ao8 t125.length co8)) (fun _ hk => hk.2)) (fun _ hk => trivial), hb_ HB⟩

/-! ### tree_Add: function 34 -/
def tree_Add.j0 : Nat → Int → Int → Bool → Int → ByteArray → ByteArray → List (S69) → Int → Bool → Option ((List (S69)) × Int × Int)
 | 0, _, _, _, _, _, _, _, _, _ => none
 | k + 1, x2, x3, x25, x130000, x130001, x130002, x137000, x137001, x137002 => if x25 = true then (some (([] : List (S69)), 0, 1)) else (if (x137000.length : Int) ≥ 1024 then (some (([] : List (S69)), 0, 8)) else ((tree_book_copy.f x137000 x137001).bind fun bt137 => (if 0 ≤ bt137.2 then (if bt137.2 < (bt137.1.length : Int) then ((some (bt137.1.set (bt137.2 : Int).toNat (⟨(rd_T69 bt137.1 bt137.2).f0, (x137000.length : Int), (rd_T69 bt137.1 bt137.2).f2, (rd_T69 bt137.1 bt137.2).f3, (⟨(rd_T69 bt137.1 bt137.2).f4.f0, (rd_T69 bt137.1 bt137.2).f4.f1, (rd_T69 bt137.1 bt137.2).f4.f2⟩ : S24)⟩ : S69) : List (S69))).bind fun y142 => (if y142.length < 1954687338268 then (some ((y142 ++ [(⟨bt137.2, (-1), x2, x3, (⟨x130000, x130001, x130002⟩ : S24)⟩ : S69)]), (x137000.length : Int), 0)) else (none))) else (none)) else (none))))
def tree_Add.f (k : Nat) (l0_0 : List (S69)) (a0_1 : Int) (a1_0 : Int) (a1_1 : ByteArray) (a1_2 : ByteArray) (a2 : Int) (a3 : Int) : Option ((List (S69)) × Int × Int) := (tree_open.f k l0_0 a0_1).bind fun bt131 => (if bt131.2.2 = true then (if a2 < 0 then (tree_Add.j0 k a2 a3 true a1_0 a1_1 a1_2 bt131.1 bt131.2.1 bt131.2.2) else (tree_Add.j0 k a2 a3 (decide (a3 < 0)) a1_0 a1_1 a1_2 bt131.1 bt131.2.1 bt131.2.2)) else (tree_Add.j0 k a2 a3 true a1_0 a1_1 a1_2 bt131.1 bt131.2.1 bt131.2.2))
theorem tree_Add.mono_l : ∀ k, (∀ y0 y1 y2 y3 y4 y5 y6 y7 y8, LeO (tree_Add.j0 k y0 y1 y2 y3 y4 y5 y6 y7 y8) (tree_Add.j0 (k + 1) y0 y1 y2 y3 y4 y5 y6 y7 y8))
 | 0 => fun _ _ _ _ _ _ _ _ _ r h => by simp [tree_Add.j0] at h
 | k + 1 => by
  have ih0 := tree_Add.mono_l k
  ·intro y0 y1 y2 y3 y4 y5 y6 y7 y8
   unfold tree_Add.j0
   repeat' first
   | (with_reducible exact ih0 _ _ _ _ _ _ _ _ _)
   | (with_reducible exact tree_open.mono _ _ _)
   | (with_reducible exact LeO.refl _)
   | (with_reducible exact LeO.none _)
   | (with_reducible refine LeO.ite ?_ ?_)
   | (with_reducible refine LeO.bind ?_ (fun _ => ?_))
   | exact ih0 _ _ _ _ _ _ _ _ _
   | exact tree_open.mono _ _ _
   | exact LeO.none _
   | refine LeO.ite ?_ ?_
   | refine LeO.bind ?_ (fun _ => ?_)
theorem tree_Add.mono : ∀ a0 a1 a2 a3 a4 a5 a6 k, LeO (tree_Add.f k a0 a1 a2 a3 a4 a5 a6) (tree_Add.f (k + 1) a0 a1 a2 a3 a4 a5 a6) := by
 intro a0 a1 a2 a3 a4 a5 a6 k
 have ih0 := tree_Add.mono_l k
 unfold tree_Add.f
 repeat' first
   | (with_reducible exact ih0 _ _ _ _ _ _ _ _ _)
   | (with_reducible exact tree_open.mono _ _ _)
   | (with_reducible exact LeO.refl _)
   | (with_reducible exact LeO.none _)
   | (with_reducible refine LeO.ite ?_ ?_)
   | (with_reducible refine LeO.bind ?_ (fun _ => ?_))
   | exact ih0 _ _ _ _ _ _ _ _ _
   | exact tree_open.mono _ _ _
   | exact LeO.none _
   | refine LeO.ite ?_ ?_
   | refine LeO.bind ?_ (fun _ => ?_)
set_option maxHeartbeats 8000000 in
set_option maxRecDepth 100000 in
theorem tree_Add.calls (k : Nat) (A0_0 : Option Addr) (c0_0 : Nat) (l0_0 : List (S69)) (a0_1 : Int) (a1_0 : Int) (a1_1 : ByteArray) (a1_2 : ByteArray) (a2 : Int) (a3 : Int) (r1 : List (S69)) (r2 : Int) (r3 : Int) (w : World) (hr0_0 : Kd.C k69 w A0_0 l0_0.length l0_0) (hc0_0 : l0_0.length ≤ c0_0) (h : tree_Add.f k l0_0 a0_1 a1_0 a1_1 a1_2 a2 a3 = some (r1, r2, r3)) :
  Calls Try.prog 34 #[.agg #[.slice A0_0 l0_0.length c0_0, .int .i64 a0_1], .agg #[.int .i64 a1_0, .string a1_1, .string a1_2], .int .i64 a2, .int .i64 a3] w fun e w' => ∃ v0_ : Value, e = .returned (.tuple #[.agg #[v0_, .int .i64 r2], .int .i64 r3]) ∧ Kd.R k69 69 w' w.heap.size (fun _ => True) v0_ r1 ∧ Below w.heap.size w w' := by
 have hu46 := Try.underlying46
 have hu24 := Try.underlying24
 have hu104 := Try.underlying104
 have hu102 := Try.underlying102
 have hu69 := Try.underlying69
 have HR0_0 := Aside0.mk hr0_0
 have HC0_0 := Aside0.mk hc0_0
 clear hr0_0 hc0_0
 have HB := Aside0.mk (Below.refl w.heap.size w)
 have H : ((tree_open.f k l0_0 a0_1).bind fun bt131 => (if bt131.2.2 = true then (if a2 < 0 then (tree_Add.j0 k a2 a3 true a1_0 a1_1 a1_2 bt131.1 bt131.2.1 bt131.2.2) else (tree_Add.j0 k a2 a3 (decide (a3 < 0)) a1_0 a1_1 a1_2 bt131.1 bt131.2.1 bt131.2.2)) else (tree_Add.j0 k a2 a3 true a1_0 a1_1 a1_2 bt131.1 bt131.2.1 bt131.2.2))) = some (r1, r2, r3) := h
 clear h
 replace H := Option.bind_eq_some_iff.mp H
 obtain ⟨⟨t131, t134, t135⟩, A50, H⟩ := H
 replace H : (if t135 = true then (if a2 < 0 then (tree_Add.j0 k a2 a3 true a1_0 a1_1 a1_2 t131 t134 t135) else (tree_Add.j0 k a2 a3 (decide (a3 < 0)) a1_0 a1_1 a1_2 t131 t134 t135)) else (tree_Add.j0 k a2 a3 true a1_0 a1_1 a1_2 t131 t134 t135)) = some (r1, r2, r3) := H
 have A5 := Aside0.mk A50
 clear A50
 have HC6 := Aside0.mk H
 clear H
 go_enter Try.func34, Try.ntmps34
 go_upto_region 2 with (first | ((with_reducible refine gate_dst (N := 4) rfl ?_); refine be_ (N := 4) (cs := #[.slice A0_0 l0_0.length c0_0, .int .i64 a0_1]) (t := 46) (h := ?_); intro gb128 hg w7 hbox hb; have BK128 := Aside0.mk (hbox); have GW128 := gw_ HB hg; have GE128 := gw_ HB hg; replace HB := bs_ HB hb; clear hb hbox hg) | ((with_reducible refine gate_dst (N := 5) rfl ?_); refine be_ (N := 5) (cs := #[.int .i64 a1_0, .string a1_1, .string a1_2]) (t := 24) (h := ?_); intro gb129 hg w8 hbox hb; have BK129 := Aside0.mk (hbox); have GW129 := gw_ HB hg; have GE129 := gw_ HB hg; have NB128_129 := ne_ BK128 hg; have NB129_128 := en_ BK128 hg; replace BK128 := bb_ BK128 hb; replace HB := bs_ HB hb; clear hb hbox hg) | ((with_reducible refine gate_dst (N := 8) rfl ?_); refine be_ (N := 8) (cs := #[.slice none 0 0, .int .i64 0]) (t := 46) (h := ?_); intro gb130 hg w9 hbox hb; have BK130 := Aside0.mk (hbox); have GW130 := gw_ HB hg; have GE130 := gw_ HB hg; have NB128_130 := ne_ BK128 hg; have NB130_128 := en_ BK128 hg; have NB129_130 := ne_ BK129 hg; have NB130_129 := en_ BK129 hg; replace BK128 := bb_ BK128 hb; replace BK129 := bb_ BK129 hb; replace HB := bs_ HB hb; clear hb hbox hg; have hnb10 := NB128_129.out; have hnc10 := NB129_128.out; have hnb11 := NB128_130.out; have hnc11 := NB130_128.out; obtain ⟨hcz12_0, hcz12_1, hfz12_0, hfz12_1⟩ := bc2_ BK128) | ((with_reducible refine gate_callee (f := 79) rfl ?_); refine ge_ (some 14) rfl rfl Try.func79 (by kernel_rfl) rfl #[.agg #[.slice A0_0 l0_0.length c0_0, .int .i64 a0_1]] rfl (h := ?_); (with_reducible refine (tree_open.calls k (fun k_ => k_ < w.heap.size) _ _ l0_0 a0_1 t131 t134 t135 _ ?side1 A5.out).mono ?_); (case side1 => exact Kd.V_mk HC0_0.out (Kd.F_below (Kd.C_F k69_heap HR0_0.out) (hb_ HB))); rintro e w13 ⟨v132, rfl, ho0, hb⟩; refine ⟨_, rfl, ?_⟩; have HO133 := Aside0.mk (Kd.V_lower (Kd.V_mono (ok' := fun k_ => k_ ≠ gb128 ∧ k_ ≠ gb129 ∧ k_ ≠ gb130) ho0 (fun k_ hk_ => ⟨Or.elim hk_ (fun hs_ => fun e_ => Nat.not_le.2 hs_ (by rw [e_]; exact GW128.out)) (fun hn_ => (Kd.freshB (g := gb128) (o := .cells #[.slice A0_0 l0_0.length c0_0, .int .i64 a0_1] 46 (0, 0)) (bw_ BK128.out) k_ hn_)), Or.elim hk_ (fun hs_ => fun e_ => Nat.not_le.2 hs_ (by rw [e_]; exact GW129.out)) (fun hn_ => (Kd.freshB (g := gb129) (o := .cells #[.int .i64 a1_0, .string a1_1, .string a1_2] 24 (0, 0)) (bw_ BK129.out) k_ hn_)), Or.elim hk_ (fun hs_ => fun e_ => Nat.not_le.2 hs_ (by rw [e_]; exact GW130.out)) (fun hn_ => (Kd.freshB (g := gb130) (o := .cells #[.slice none 0 0, .int .i64 0] 46 (0, 0)) (bw_ BK130.out) k_ hn_))⟩)) (below_size (hb_ HB))); replace BK128 := bb_ BK128 hb; replace BK129 := bb_ BK129 hb; replace BK130 := bb_ BK130 hb; replace HB := bs_ HB hb; (try clear hb); (try clear hb2); (try clear hk); (try clear hi); (try clear ho0)) | ((with_reducible refine gate_dst (N := 10) rfl ?_); refine be_ (N := 10) (cs := #[.slice none 0 0, .int .i64 0, .bool false]) (t := 104) (h := ?_); intro gb136 hg w14 hbox hb; have BK136 := Aside0.mk (hbox); have GW136 := gw_ HB hg; have GE136 := gw_ HB hg; have NB128_136 := ne_ BK128 hg; have NB136_128 := en_ BK128 hg; have NB129_136 := ne_ BK129 hg; have NB136_129 := en_ BK129 hg; have NB130_136 := ne_ BK130 hg; have NB136_130 := en_ BK130 hg; replace HO133 := Aside0.mk (Kd.V_below (Kd.V_elderB (vw_ HO133.out) gb136 (Nat.le_of_eq hg.symm)) hb); replace BK128 := bb_ BK128 hb; replace BK129 := bb_ BK129 hb; replace BK130 := bb_ BK130 hb; replace HB := bs_ HB hb; clear hb hbox hg; obtain ⟨Ao15, co15, eo15⟩ := Kd.V_slice HO133.out; subst eo15; have hnb16 := NB136_128.out; have hnc16 := NB128_136.out; have hnb17 := NB136_129.out; have hnc17 := NB129_136.out; have hnb18 := NB136_130.out; have hnc18 := NB130_136.out; obtain ⟨hcz19_0, hcz19_1, hcz19_2, hfz19_0, hfz19_1, hfz19_2⟩ := bc3_ BK136))
 (try simp only [Act.put, List.setIfInBounds_toArray, List.set_cons_zero, List.set_cons_succ])
 go_cut [25] (fun v25 wc => ∃ (kq : Nat) (x25_5 : Bool), v25 = .bool x25_5 ∧ Aside0 (tree_Add.j0 kq a2 a3 x25_5 a1_0 a1_1 a1_2 t131 t134 t135 = some (r1, r2, r3)) ∧ Aside0 (kq ≤ k) ∧ Aside0 (Kd.V k69 69 wc w.heap.size (fun k_ => k_ ≠ gb128 ∧ k_ ≠ gb129 ∧ k_ ≠ gb130 ∧ k_ ≠ gb136) (.slice Ao15 t131.length co15) t131) ∧ Aside0 (wc.heap[gb128]? = some (.cells #[(.slice A0_0 l0_0.length c0_0), .int .i64 a0_1] 46 (0, 0))) ∧ Aside0 (wc.heap[gb129]? = some (.cells #[.int .i64 a1_0, .string a1_1, .string a1_2] 24 (0, 0))) ∧ Aside0 (wc.heap[gb130]? = some (.cells #[(.slice none 0 0), .int .i64 0] 46 (0, 0))) ∧ Aside0 (wc.heap[gb136]? = some (.cells #[(.slice Ao15 t131.length co15), .int .i64 t134, .bool t135] 104 (0, 0))) ∧ Aside0 (Below w.heap.size w wc))
 case first =>
  have H := HC6.out
  clear HC6
  by_cases c20 : t135 = true
  ·subst c20
   have H1 : (if a2 < 0 then (tree_Add.j0 k a2 a3 true a1_0 a1_1 a1_2 t131 t134 true) else (tree_Add.j0 k a2 a3 (decide (a3 < 0)) a1_0 a1_1 a1_2 t131 t134 true)) = some (r1, r2, r3) := by rw [if_pos rfl] at H; exact H
   clear H
   have H := H1
   clear H1
   by_cases c21 : a2 < 0
   ·rw [if_pos c21] at H
    have c21b0 : decide (a2 < 0) = true := decide_eq_true c21
    clear c21
    (first | rw [c21b0] | (simp only [i64_w, i32_w]; rw [c21b0]) | skip)
    have H' := Aside0.mk H
    clear H
    have hnb22 := NB136_128.out
    have hnc22 := NB128_136.out
    have hnb23 := NB136_129.out
    have hnc23 := NB129_136.out
    have hnb24 := NB136_130.out
    have hnc24 := NB130_136.out
    obtain ⟨hcz25_0, hcz25_1, hcz25_2, hfz25_0, hfz25_1, hfz25_2⟩ := bc3_ BK136
    go_wp2
    go_meet
    case rel => exact ⟨_, (true), es_, H', ⟨by first | omega | exact Nat.le_refl _⟩, ⟨by (with_reducible repeat (first | apply Kd.V_alloc | apply Kd.V_drewN | apply Kd.V_drew)); exact Kd.V_mono (vf_ (Kd.V_mono HO133.out (fun k_ hk => (⟨hk, hk.2⟩ : _ ∧ k_ ≠ gb136))) (fun _ hk => hk.2)) (fun _ hk => ⟨hk.1.1.1, ⟨hk.1.1.2.1, ⟨hk.1.1.2.2, hk.1.2⟩⟩⟩)⟩, ⟨bp_ BK128.out⟩, ⟨bp_ BK129.out⟩, ⟨bp_ BK130.out⟩, ⟨bp_ BK136.out⟩, ⟨hb_ HB⟩⟩
   ·rw [if_neg c21] at H
    have c21b0 : decide (a2 < 0) = false := decide_eq_false c21
    clear c21
    (first | rw [c21b0] | (simp only [i64_w, i32_w]; rw [c21b0]) | skip)
    have H' := Aside0.mk H
    clear H
    have hnb26 := NB136_128.out
    have hnc26 := NB128_136.out
    have hnb27 := NB136_129.out
    have hnc27 := NB129_136.out
    have hnb28 := NB136_130.out
    have hnc28 := NB130_136.out
    obtain ⟨hcz29_0, hcz29_1, hcz29_2, hfz29_0, hfz29_1, hfz29_2⟩ := bc3_ BK136
    go_wp2
    go_meet
    case rel => exact ⟨_, (decide (a3 < 0)), es_, H', ⟨by first | omega | exact Nat.le_refl _⟩, ⟨by (with_reducible repeat (first | apply Kd.V_alloc | apply Kd.V_drewN | apply Kd.V_drew)); exact Kd.V_mono (vf_ (Kd.V_mono HO133.out (fun k_ hk => (⟨hk, hk.2⟩ : _ ∧ k_ ≠ gb136))) (fun _ hk => hk.2)) (fun _ hk => ⟨hk.1.1.1, ⟨hk.1.1.2.1, ⟨hk.1.1.2.2, hk.1.2⟩⟩⟩)⟩, ⟨bp_ BK128.out⟩, ⟨bp_ BK129.out⟩, ⟨bp_ BK130.out⟩, ⟨bp_ BK136.out⟩, ⟨hb_ HB⟩⟩
  ·replace c20 := Bool.eq_false_iff.mpr c20
   subst c20
   have H1 : (tree_Add.j0 k a2 a3 true a1_0 a1_1 a1_2 t131 t134 false) = some (r1, r2, r3) := by rw [if_neg (show ¬ (false = true) by decide)] at H; exact H
   clear H
   have H := H1
   clear H1
   have H' := Aside0.mk H
   clear H
   have hnb30 := NB136_128.out
   have hnc30 := NB128_136.out
   have hnb31 := NB136_129.out
   have hnc31 := NB129_136.out
   have hnb32 := NB136_130.out
   have hnc32 := NB130_136.out
   obtain ⟨hcz33_0, hcz33_1, hcz33_2, hfz33_0, hfz33_1, hfz33_2⟩ := bc3_ BK136
   go_wp2
   go_meet
   case rel => exact ⟨_, (true), es_, H', ⟨by first | omega | exact Nat.le_refl _⟩, ⟨by (with_reducible repeat (first | apply Kd.V_alloc | apply Kd.V_drewN | apply Kd.V_drew)); exact Kd.V_mono (vf_ (Kd.V_mono HO133.out (fun k_ hk => (⟨hk, hk.2⟩ : _ ∧ k_ ≠ gb136))) (fun _ hk => hk.2)) (fun _ hk => ⟨hk.1.1.1, ⟨hk.1.1.2.1, ⟨hk.1.1.2.2, hk.1.2⟩⟩⟩)⟩, ⟨bp_ BK128.out⟩, ⟨bp_ BK129.out⟩, ⟨bp_ BK130.out⟩, ⟨bp_ BK136.out⟩, ⟨hb_ HB⟩⟩
 case rest =>
  clear HC6
  try clear hcz12_0
  try clear hcz12_1
  try clear hcz19_0
  try clear hcz19_1
  try clear hcz19_2
  try clear hfz12_0
  try clear hfz12_1
  try clear hfz19_0
  try clear hfz19_1
  try clear hfz19_2
  obtain ⟨kq, x25_5, rfl, HA, HJ5, HO_137000, BK128, BK129, BK130, BK136, HB⟩ := hcut
  cases kq with
  | zero => exact absurd HA.out (by simp [tree_Add.j0])
  | succ kj5 =>
   have H := HA.out
   clear HA
   simp only [tree_Add.j0] at H
   by_cases c34 : x25_5 = true
   ·subst c34
    have H1 : (some (([] : List (S69)), 0, 1)) = some (r1, r2, r3) := by rw [if_pos rfl] at H; exact H
    clear H
    have H := H1
    clear H1
    simp only [Option.some.injEq, Prod.mk.injEq] at H
    obtain ⟨rfl, rfl, rfl⟩ := H
    have hnb35 := NB130_128.out
    have hnc35 := NB128_130.out
    have hnb36 := NB130_129.out
    have hnc36 := NB129_130.out
    have hnb37 := NB130_136.out
    have hnc37 := NB136_130.out
    obtain ⟨hcz38_0, hcz38_1, hfz38_0, hfz38_1⟩ := bc2_ BK130
    go_wp2
    refine bodyPost_ret (results_ct rfl _ _ gb130 46 #[.slice none 0 0, .int .i64 0] (0, 0) _ rfl (bp_ BK130.out) Try.underlying46 rfl (by kernel_rfl)) rfl ?_
    exact ⟨_, er_, by first | exact Kd.R_nil _ _ _ _ _ | exact Kd.N_nil _ _ _ _ _ | exact Kd.V_nil _ _ _ _ _ | exact Kd.Q_nil _ _ _ _ _ | exact Kd.S_nil _ _ _ _ _, hb_ HB⟩
   ·replace c34 := Bool.eq_false_iff.mpr c34
    subst c34
    have H1 : (if (t131.length : Int) ≥ 1024 then (some (([] : List (S69)), 0, 8)) else ((tree_book_copy.f t131 t134).bind fun bt137 => (if 0 ≤ bt137.2 then (if bt137.2 < (bt137.1.length : Int) then ((some (bt137.1.set (bt137.2 : Int).toNat (⟨(rd_T69 bt137.1 bt137.2).f0, (t131.length : Int), (rd_T69 bt137.1 bt137.2).f2, (rd_T69 bt137.1 bt137.2).f3, (⟨(rd_T69 bt137.1 bt137.2).f4.f0, (rd_T69 bt137.1 bt137.2).f4.f1, (rd_T69 bt137.1 bt137.2).f4.f2⟩ : S24)⟩ : S69) : List (S69))).bind fun y142 => (if y142.length < 1954687338268 then (some ((y142 ++ [(⟨bt137.2, (-1), a2, a3, (⟨a1_0, a1_1, a1_2⟩ : S24)⟩ : S69)]), (t131.length : Int), 0)) else (none))) else (none)) else (none)))) = some (r1, r2, r3) := by rw [if_neg (show ¬ (false = true) by decide)] at H; exact H
    clear H
    have H := H1
    clear H1
    by_cases c39 : (t131.length : Int) ≥ 1024
    ·rw [if_pos c39] at H
     have c39b0 : decide (1024 ≤ (t131.length : Int)) = true := decide_eq_true c39
     have c39b1 : decide (1024 ≤ t131.length) = true := decide_eq_true (by omega)
     clear c39
     simp only [Option.some.injEq, Prod.mk.injEq] at H
     obtain ⟨rfl, rfl, rfl⟩ := H
     have hnb40 := NB136_128.out
     have hnc40 := NB128_136.out
     have hnb41 := NB136_129.out
     have hnc41 := NB129_136.out
     have hnb42 := NB136_130.out
     have hnc42 := NB130_136.out
     obtain ⟨hcz43_0, hcz43_1, hcz43_2, hfz43_0, hfz43_1, hfz43_2⟩ := bc3_ BK136
     have hnb44 := NB130_128.out
     have hnc44 := NB128_130.out
     have hnb45 := NB130_129.out
     have hnc45 := NB129_130.out
     obtain ⟨hcz46_0, hcz46_1, hfz46_0, hfz46_1⟩ := bc2_ BK130
     go_wp2
     refine bodyPost_ret (results_ct rfl _ _ gb130 46 #[.slice none 0 0, .int .i64 0] (0, 0) _ rfl (bp_ BK130.out) Try.underlying46 rfl (by kernel_rfl)) rfl ?_
     exact ⟨_, er_, by first | exact Kd.R_nil _ _ _ _ _ | exact Kd.N_nil _ _ _ _ _ | exact Kd.V_nil _ _ _ _ _ | exact Kd.Q_nil _ _ _ _ _ | exact Kd.S_nil _ _ _ _ _, hb_ HB⟩
    ·rw [if_neg c39] at H
     have c39b0 : decide (1024 ≤ (t131.length : Int)) = false := decide_eq_false c39
     have c39b1 : decide (1024 ≤ t131.length) = false := decide_eq_false (by omega)
     clear c39
     replace H := Option.bind_eq_some_iff.mp H
     obtain ⟨⟨t137, t140⟩, A470, H⟩ := H
     replace H : (if 0 ≤ t140 then (if t140 < (t137.length : Int) then ((some (t137.set (t140 : Int).toNat (⟨(rd_T69 t137 t140).f0, (t131.length : Int), (rd_T69 t137 t140).f2, (rd_T69 t137 t140).f3, (⟨(rd_T69 t137 t140).f4.f0, (rd_T69 t137 t140).f4.f1, (rd_T69 t137 t140).f4.f2⟩ : S24)⟩ : S69) : List (S69))).bind fun y142 => (if y142.length < 1954687338268 then (some ((y142 ++ [(⟨t140, (-1), a2, a3, (⟨a1_0, a1_1, a1_2⟩ : S24)⟩ : S69)]), (t131.length : Int), 0)) else (none))) else (none)) else (none)) = some (r1, r2, r3) := H
     have A47 := Aside0.mk A470
     clear A470
     by_cases c48 : 0 ≤ t140
     ·rw [if_pos c48] at H
      have c48b0 : decide (0 ≤ t140) = true := decide_eq_true c48
      clear c48
      by_cases c49 : t140 < (t137.length : Int)
      ·rw [if_pos c49] at H
       have c49b0 : decide (t140 < (t137.length : Int)) = true := decide_eq_true c49
       clear c49
       obtain ⟨y142, hy142⟩ : ∃ y_ : List (S69), y_ = (t137.set (t140 : Int).toNat (⟨(rd_T69 t137 t140).f0, (t131.length : Int), (rd_T69 t137 t140).f2, (rd_T69 t137 t140).f3, (⟨(rd_T69 t137 t140).f4.f0, (rd_T69 t137 t140).f4.f1, (rd_T69 t137 t140).f4.f2⟩ : S24)⟩ : S69)) := ⟨_, rfl⟩
       replace H : (if y142.length < 1954687338268 then (some ((y142 ++ [(⟨t140, (-1), a2, a3, (⟨a1_0, a1_1, a1_2⟩ : S24)⟩ : S69)]), (t131.length : Int), 0)) else (none)) = some (r1, r2, r3) := th_ H hy142
       have Ny142 := Aside0.mk hy142
       clear hy142
       by_cases c51 : y142.length < 1954687338268
       ·rw [if_pos c51] at H
        have LMc51 := Aside0.mk c51
        clear c51
        obtain ⟨y143, hy143⟩ : ∃ y_ : List (S69), y_ = (y142 ++ [(⟨t140, (-1), a2, a3, (⟨a1_0, a1_1, a1_2⟩ : S24)⟩ : S69)]) := ⟨_, rfl⟩
        replace H : (some (y143, (t131.length : Int), 0)) = some (r1, r2, r3) := th_ H hy143
        have Ny143 := Aside0.mk hy143
        clear hy143
        simp only [Option.some.injEq, Prod.mk.injEq] at H
        obtain ⟨rfl, rfl, rfl⟩ := H
        have hnb52 := NB136_128.out
        have hnc52 := NB128_136.out
        have hnb53 := NB136_129.out
        have hnc53 := NB129_136.out
        have hnb54 := NB136_130.out
        have hnc54 := NB130_136.out
        obtain ⟨hcz55_0, hcz55_1, hcz55_2, hfz55_0, hfz55_1, hfz55_2⟩ := bc3_ BK136
        go_wp2_with (first | ((with_reducible refine gate_callee (f := 80) rfl ?_); refine ge_ (some 37) rfl rfl Try.func80 (by kernel_rfl) rfl #[.agg #[.slice Ao15 t131.length co15, .int .i64 t134]] rfl (h := ?_); (with_reducible refine (tree_book_copy.calls _ _ t131 t134 t137 t140 _ ?side1 ?side2 A47.out).mono ?_); (case side1 => repeat (first | exact (Kd.V_reads' HO_137000.out).2.2 | (with_reducible refine Kd.C_alloc ?_ _) | (with_reducible refine Kd.C_drewN ?_ _) | (with_reducible refine Kd.C_drew ?_))); (case side2 => exact (Kd.V_reads' HO_137000.out).2.1); rintro e w56 ⟨v138, rfl, ho0, hb⟩; refine ⟨_, rfl, ?_⟩; have HO139 := Aside0.mk (Kd.R_lower ho0 (below_size (hb_ HB))); replace HO_137000 := Aside0.mk (Kd.V_elder' (vw_ HO_137000.out) (Kd.R_base ho0) hb); replace BK128 := bb_ BK128 hb; replace BK129 := bb_ BK129 hb; replace BK130 := bb_ BK130 hb; replace BK136 := bb_ BK136 hb; replace HB := bs_ HB hb; (try clear hb); (try clear hb2); (try clear hk); (try clear hi); (try clear ho0)) | ((with_reducible refine gate_dst (N := 12) rfl ?_); refine be_ (N := 12) (cs := #[.slice none 0 0, .int .i64 0]) (t := 102) (h := ?_); intro gb141 hg w57 hbox hb; have BK141 := Aside0.mk (hbox); have GW141 := gw_ HB hg; have GE141 := gw_ HB hg; have NB128_141 := ne_ BK128 hg; have NB141_128 := en_ BK128 hg; have NB129_141 := ne_ BK129 hg; have NB141_129 := en_ BK129 hg; have NB130_141 := ne_ BK130 hg; have NB141_130 := en_ BK130 hg; have NB136_141 := ne_ BK136 hg; have NB141_136 := en_ BK136 hg; replace HO_137000 := Aside0.mk (Kd.V_below (Kd.V_elderB (vw_ HO_137000.out) gb141 (Nat.le_of_eq hg.symm)) hb); replace HO139 := Aside0.mk (Kd.R_below (rw_ HO139.out) hb); replace BK128 := bb_ BK128 hb; replace BK129 := bb_ BK129 hb; replace BK130 := bb_ BK130 hb; replace BK136 := bb_ BK136 hb; replace HB := bs_ HB hb; clear hb hbox hg; obtain ⟨Ao58, co58, eo58⟩ := Kd.R_slice HO139.out; subst eo58; have hnb59 := NB141_128.out; have hnc59 := NB128_141.out; have hnb60 := NB141_129.out; have hnc60 := NB129_141.out; have hnb61 := NB141_130.out; have hnc61 := NB130_141.out; have hnb62 := NB141_136.out; have hnc62 := NB136_141.out; obtain ⟨hcz63_0, hcz63_1, hfz63_0, hfz63_1⟩ := bc2_ BK141) | ((with_reducible refine gate_store (t := 102) (p := 12) rfl ?_); refine store_event (t := 102) (p := 12) (v := ?vo_w64) (w1 := ((w57.setCell ⟨gb141, 0, none⟩ (.slice Ao58 t137.length co58)).setCell ⟨gb141, 1, none⟩ (.int .i64 t140))) ?hg ?ho ?hn ?hr ?_; (case ho => rfl); (case hg => rfl); (case hn => rfl); (case hr => first | (go_simp; done) | (go_simp; rfl)); intro w64 hw; have n0_ : Aside0 (Kd.V k69 69 w64 w.heap.size (fun k_ => some k_ ≠ (.slice Ao58 t137.length co58 : Value).ownBlock ∧ k_ ≠ gb128 ∧ k_ ≠ gb129 ∧ k_ ≠ gb130 ∧ k_ ≠ gb136 ∧ k_ ≠ gb141) (.slice Ao15 t131.length co15) t131) := ⟨(by rw [hw]; exact (by (with_reducible repeat (first | apply Kd.V_alloc | apply Kd.V_drewN | apply Kd.V_drew)); exact Kd.V_mono (vf_ (Kd.V_mono HO_137000.out (fun k_ hk => (⟨hk, hk.2⟩ : _ ∧ k_ ≠ gb141))) (fun _ hk => hk.2)) (fun _ hk => ⟨hk.1.1.2, ⟨hk.1.1.1.1, ⟨hk.1.1.1.2.1, ⟨hk.1.1.1.2.2.1, ⟨hk.1.1.1.2.2.2, hk.1.2⟩⟩⟩⟩⟩)))⟩; have n1_ : Aside0 (Kd.R k69 69 w64 w.heap.size (fun _ => True) (.slice Ao58 t137.length co58) t137) := ⟨(by rw [hw]; exact (by (with_reducible repeat (first | apply Kd.R_alloc | apply Kd.R_drewN | apply Kd.R_drew)); exact Kd.R_mono (rf_ (Kd.R_types HO139.out BK141.out (by decide)) (fun _ hk => hk.2)) (fun _ hk => trivial)))⟩; have n2_ : Aside0 (w64.heap[gb128]? = some (.cells #[.slice A0_0 l0_0.length c0_0, .int .i64 a0_1] 46 (0, 0))) := ⟨(by rw [hw]; exact (bp_ BK128.out))⟩; have n3_ : Aside0 (w64.heap[gb129]? = some (.cells #[.int .i64 a1_0, .string a1_1, .string a1_2] 24 (0, 0))) := ⟨(by rw [hw]; exact (bp_ BK129.out))⟩; have n4_ : Aside0 (w64.heap[gb130]? = some (.cells #[.slice none 0 0, .int .i64 0] 46 (0, 0))) := ⟨(by rw [hw]; exact (bp_ BK130.out))⟩; have n5_ : Aside0 (w64.heap[gb136]? = some (.cells #[.slice Ao15 t131.length co15, .int .i64 t134, .bool t135] 104 (0, 0))) := ⟨(by rw [hw]; exact (bp_ BK136.out))⟩; have n6_ : Aside0 (w64.heap[gb141]? = some (.cells #[.slice Ao58 t137.length co58, .int .i64 t140] 102 (0, 0))) := ⟨(by rw [hw]; exact (bp_ BK141.out))⟩; have n7_ : Aside0 (Below w.heap.size w w64) := ⟨(by rw [hw]; exact (hb_ HB))⟩; clear hw; clear HO_137000; clear HO139; clear BK128; clear BK129; clear BK130; clear BK136; clear BK141; clear HB; have HO_137000 := n0_; have HO139 := n1_; have BK128 := n2_; have BK129 := n3_; have BK130 := n4_; have BK136 := n5_; have BK141 := n6_; have HB := n7_; clear n0_ n1_ n2_ n3_ n4_ n5_ n6_ n7_; obtain ⟨hcz65_0, hcz65_1, hfz65_0, hfz65_1⟩ := bc2_ BK141; have p50 : 0 ≤ (t140 : Int) := of_decide_eq_true as_; have q50 : (t140 : Int) < ((t137.length : Int) : Int) := of_decide_eq_true as_; obtain ⟨go50, co50, eo50, gb50, gl50, cl50, HG50⟩ := Kd.R_form HO139.out (by omega); (first | cases eo50 | (injection eo50 with ea_ en_ ec_; (first | subst ea_ | (injection ea_ with ea_; subst ea_)); subst ec_; clear en_)); have GB50 := Aside0.mk gb50; have GG50 := Aside0.mk HG50; clear gb50 gl50 HG50; obtain ⟨ce50, hcl50, hM50, hcc50, hfr50⟩ := Kd.R_elem HO139.out z69 (t140 : Int) p50 q50; obtain rfl := k69_openM hM50; have hx50_0 : w64.cell? ⟨go50, (t140 : Int).toNat * 7, none⟩ = some (.int .i64 ((rd_T69 t137 t140).f0)) := hcc50 0 _ rfl; have hx50_1 : w64.cell? ⟨go50, (t140 : Int).toNat * 7 + 1, none⟩ = some (.int .i64 ((rd_T69 t137 t140).f1)) := hcc50 1 _ rfl; have hx50_2 : w64.cell? ⟨go50, (t140 : Int).toNat * 7 + 2, none⟩ = some (.int .i64 ((rd_T69 t137 t140).f2)) := hcc50 2 _ rfl; have hx50_3 : w64.cell? ⟨go50, (t140 : Int).toNat * 7 + 3, none⟩ = some (.int .i64 ((rd_T69 t137 t140).f3)) := hcc50 3 _ rfl; have hx50_4 : w64.cell? ⟨go50, (t140 : Int).toNat * 7 + 4, none⟩ = some (.int .i64 ((rd_T69 t137 t140).f4.f0)) := hcc50 4 _ rfl; have hx50_5 : w64.cell? ⟨go50, (t140 : Int).toNat * 7 + 5, none⟩ = some (.string ((rd_T69 t137 t140).f4.f1)) := hcc50 5 _ rfl; have hx50_6 : w64.cell? ⟨go50, (t140 : Int).toNat * 7 + 6, none⟩ = some (.string ((rd_T69 t137 t140).f4.f2)) := hcc50 6 _ rfl; have hf50_0 : w64.frozen? ⟨go50, (t140 : Int).toNat * 7, none⟩ = false := hfr50 0; have hf50_1 : w64.frozen? ⟨go50, (t140 : Int).toNat * 7 + 1, none⟩ = false := hfr50 1; have hf50_2 : w64.frozen? ⟨go50, (t140 : Int).toNat * 7 + 2, none⟩ = false := hfr50 2; have hf50_3 : w64.frozen? ⟨go50, (t140 : Int).toNat * 7 + 3, none⟩ = false := hfr50 3; have hf50_4 : w64.frozen? ⟨go50, (t140 : Int).toNat * 7 + 4, none⟩ = false := hfr50 4; have hf50_5 : w64.frozen? ⟨go50, (t140 : Int).toNat * 7 + 5, none⟩ = false := hfr50 5; have hf50_6 : w64.frozen? ⟨go50, (t140 : Int).toNat * 7 + 6, none⟩ = false := hfr50 6; clear hcl50 hcc50 hfr50 hM50; replace p50 := eq_true p50; replace q50 := eq_true q50; have HX66 := Aside0.mk (show Kd.R k69 69 w64 w.heap.size (fun _ => True) (.slice (some ⟨go50, 0, none⟩) t137.length co58) t137 from (rw_ HO139.out)); obtain ⟨ce66, hcl66, hM66, hcc66, hfr66⟩ := Kd.R_elem HX66.out z69 (t140 : Int) (of_decide_eq_true as_) (by have h_ : (t140 : Int) < ((t137.length : Int) : Int) := of_decide_eq_true as_; first | exact h_ | (have e_ := (Kd.R_reads' HO139.out).1; omega) | simpa using h_); obtain rfl := k69_openM hM66; have HP66 := Kd.R_seg HX66.out (t140 : Int) (of_decide_eq_true as_) (by have h_ : (t140 : Int) < ((t137.length : Int) : Int) := of_decide_eq_true as_; first | exact h_ | (have e_ := (Kd.R_reads' HO139.out).1; omega) | simpa using h_) (seg := [.int .i64 (t131.length : Int)]) (j := 1) hcl66 hcc66 (show 2 ≤ 7 from by decide) (x' := (⟨(rd_T69 t137 t140).f0, (t131.length : Int), (rd_T69 t137 t140).f2, (rd_T69 t137 t140).f3, (⟨(rd_T69 t137 t140).f4.f0, (rd_T69 t137 t140).f4.f1, (rd_T69 t137 t140).f4.f2⟩ : S24)⟩ : S69)) (k69_mkM _ _ _ (⟨(rd_T69 t137 t140).f0, (t131.length : Int), (rd_T69 t137 t140).f2, (rd_T69 t137 t140).f3, (⟨(rd_T69 t137 t140).f4.f0, (rd_T69 t137 t140).f4.f1, (rd_T69 t137 t140).f4.f2⟩ : S24)⟩ : S69) ) (fun _ hk => hk); have hx66_1 := hcc66 1 _ rfl; (try simp only [show (k69).sz = 7 from rfl, Nat.mul_one, Nat.add_zero] at hx66_1); have hf66_1 := hfr66 1; (try simp only [show (k69).sz = 7 from rfl, Nat.mul_one, Nat.add_zero] at hf66_1); clear hcl66 hcc66 hfr66 hM66) | ((with_reducible refine gate_store (t := 3) (p := 46) rfl ?_); refine store_event (t := 3) (p := 46) (v := ?vo_w67) (w1 := (w64.setCell ⟨go50, (t140 : Int).toNat * 7 + 1, none⟩ (.int .i64 (t131.length : Int)))) ?hg ?ho ?hn ?hr ?_; (case ho => rfl); (case hg => rfl); (case hn => rfl); (case hr => first | (go_simp; done) | (go_simp; rfl)); intro w67 hw; have hg : w64.grownBy w67 (some go50) := (by rw [hw]; exact HP66.2); have hp_ : Kd.R k69 69 w67 w.heap.size (fun _ => True) (.slice (some ⟨go50, 0, none⟩) t137.length co58) y142 := (by rw [hw, Ny142.out]; exact HP66.1); clear HP66; replace HO_137000 := Aside0.mk (Kd.V_afterv (v := (.slice (some ⟨go50, 0, none⟩) t137.length co58)) (v1 := (.slice (some ⟨go50, 0, none⟩) t137.length co58)) (ok := (fun k_ => k_ ≠ gb128 ∧ k_ ≠ gb129 ∧ k_ ≠ gb130 ∧ k_ ≠ gb136 ∧ k_ ≠ gb141)) (by (with_reducible repeat (first | apply Kd.V_alloc | apply Kd.V_drewN | apply Kd.V_drew)); exact Kd.V_mono HO_137000.out (fun _ hk => ⟨⟨hk.2.1, ⟨hk.2.2.1, ⟨hk.2.2.2.1, ⟨hk.2.2.2.2.1, hk.2.2.2.2.2⟩⟩⟩⟩, hk.1⟩)) hg (.inl rfl)); replace BK128 := Aside0.mk (blk_grown (g := gb128) (o := .cells #[.slice A0_0 l0_0.length c0_0, .int .i64 a0_1] 46 (0, 0)) (bw_ BK128.out) hg (Kd.R_ne HO139.out BK128.out (by decide))); replace BK129 := Aside0.mk (blk_grown (g := gb129) (o := .cells #[.int .i64 a1_0, .string a1_1, .string a1_2] 24 (0, 0)) (bw_ BK129.out) hg (Kd.R_ne HO139.out BK129.out (by decide))); replace BK130 := Aside0.mk (blk_grown (g := gb130) (o := .cells #[.slice none 0 0, .int .i64 0] 46 (0, 0)) (bw_ BK130.out) hg (Kd.R_ne HO139.out BK130.out (by decide))); replace BK136 := Aside0.mk (blk_grown (g := gb136) (o := .cells #[.slice Ao15 t131.length co15, .int .i64 t134, .bool t135] 104 (0, 0)) (bw_ BK136.out) hg (Kd.R_ne HO139.out BK136.out (by decide))); replace BK141 := Aside0.mk (blk_grown (g := gb141) (o := .cells #[.slice (some ⟨go50, 0, none⟩) t137.length co58, .int .i64 t140] 102 (0, 0)) (bw_ BK141.out) hg (Kd.R_ne HO139.out BK141.out (by decide))); replace HB := Aside0.mk ((by rw [hw]; exact below_set (HB.out) GB50.out : Below w.heap.size w w67)); replace HO139 := Aside0.mk (hp_); clear hg hw hp_; obtain ⟨hcz68_0, hcz68_1, hfz68_0, hfz68_1⟩ := bc2_ BK141; have hnb69 := NB129_128.out; have hnc69 := NB128_129.out; have hnb70 := NB129_130.out; have hnc70 := NB130_129.out; obtain ⟨hcz71_0, hcz71_1, hcz71_2, hfz71_0, hfz71_1, hfz71_2⟩ := bc3_ BK129) | ((with_reducible refine gate_builtin (b := .append) (xs := #[.tmp 49, .tmp 57]) rfl ?_); at_builtin; refine Kd.R_append k69 (w0 := w) w.heap.size rfl (.tmp 49) (.tmp 57) 44 69 (.agg #[(.int .i64 0), (.int .i64 0), (.int .i64 0), (.int .i64 0), (.int .i64 0), (.string ⟨#[]⟩), (.string ⟨#[]⟩)]) 72 rfl Try.underlying44 info69 rfl (by decide) (by omega) (.slice (some ⟨go50, 0, none⟩) t137.length co58) y142 (⟨t140, (-1), a2, a3, (⟨a1_0, a1_1, a1_2⟩ : S24)⟩ : S69) [.int .i64 t140, .int .i64 (-1), .int .i64 a2, .int .i64 a3, .int .i64 a1_0, .string a1_1, .string a1_2] (fun _ => True) (fun _ => False) rfl rfl ?aP (fun _ hk => hk.elim) ?aF ?aO ?aB ?aS ?aL ?_; (case aP => exact k69_mkM _ _ _ (⟨t140, (-1), a2, a3, (⟨a1_0, a1_1, a1_2⟩ : S24)⟩ : S69)); (case aB => exact (hb_ HB)); (case aF => exact (fun _ _ => trivial)); (case aO => exact (rw_ HO139.out)); (case aS => exact (below_size (hb_ HB))); (case aL => have := LMc51.out; omega); intro v144 w72 ho hb hg hat; rw [← Ny143.out] at ho; have n0_ := Aside0.mk (Kd.V_afterv (ok := (fun k_ => k_ ≠ gb128 ∧ k_ ≠ gb129 ∧ k_ ≠ gb130 ∧ k_ ≠ gb136 ∧ k_ ≠ gb141)) (vw_ HO_137000.out) hg hat); have n1_ := Aside0.mk (blk_grown (g := gb128) (o := .cells #[.slice A0_0 l0_0.length c0_0, .int .i64 a0_1] 46 (0, 0)) (bw_ BK128.out) hg (Kd.R_ne HO139.out BK128.out (by decide))); have n2_ := Aside0.mk (blk_grown (g := gb129) (o := .cells #[.int .i64 a1_0, .string a1_1, .string a1_2] 24 (0, 0)) (bw_ BK129.out) hg (Kd.R_ne HO139.out BK129.out (by decide))); have n3_ := Aside0.mk (blk_grown (g := gb130) (o := .cells #[.slice none 0 0, .int .i64 0] 46 (0, 0)) (bw_ BK130.out) hg (Kd.R_ne HO139.out BK130.out (by decide))); have n4_ := Aside0.mk (blk_grown (g := gb136) (o := .cells #[.slice Ao15 t131.length co15, .int .i64 t134, .bool t135] 104 (0, 0)) (bw_ BK136.out) hg (Kd.R_ne HO139.out BK136.out (by decide))); have n5_ := Aside0.mk (blk_grown (g := gb141) (o := .cells #[.slice (some ⟨go50, 0, none⟩) t137.length co58, .int .i64 t140] 102 (0, 0)) (bw_ BK141.out) hg (Kd.R_ne HO139.out BK141.out (by decide))); have n6_ := Aside0.mk (hb); have n7_ := Aside0.mk (ho); clear HO_137000; clear BK128; clear BK129; clear BK130; clear BK136; clear BK141; clear HB; clear HO139; have HO_137000 := n0_; have BK128 := n1_; have BK129 := n2_; have BK130 := n3_; have BK136 := n4_; have BK141 := n5_; have HB := n6_; have HO145 := n7_; clear n0_ n1_ n2_ n3_ n4_ n5_ n6_ n7_; clear ho hb hg hat; obtain ⟨Ao73, co73, eo73⟩ := Kd.R_slice HO145.out; subst eo73; obtain ⟨hcz74_0, hcz74_1, hfz74_0, hfz74_1⟩ := bc2_ BK141; have hnb75 := NB130_128.out; have hnc75 := NB128_130.out; obtain ⟨hcz76_0, hcz76_1, hfz76_0, hfz76_1⟩ := bc2_ BK130))
        refine bodyPost_ret (results_ct rfl _ _ gb130 46 #[.slice Ao73 y143.length co73, .int .i64 (t131.length : Int)] (0, 0) _ rfl (bp_ BK130.out) Try.underlying46 rfl (by kernel_rfl)) rfl ?_
        exact ⟨_, er_, by (with_reducible repeat (first | apply Kd.R_alloc | apply Kd.R_drewN | apply Kd.R_drew)); exact Kd.R_mono (rf_ (Kd.R_far (p := ⟨gb141, 1, none⟩) (Kd.R_far (p := ⟨gb141, 0, none⟩) (Kd.R_types (Kd.R_types HO145.out BK141.out (by decide)) BK130.out (by decide)) (fun _ hk => hk.1.2) (.slice Ao73 y143.length co73)) (fun _ hk => hk.1.2) (.int .i64 (t131.length : Int))) (fun _ hk => hk.2)) (fun _ hk => trivial), hb_ HB⟩
       ·rw [if_neg c51] at H
        exact absurd H (by simp)
      ·rw [if_neg c49] at H
       exact absurd H (by simp)
     ·rw [if_neg c48] at H
      exact absurd H (by simp)

/-! ### tree_New: function 40 -/
def tree_New.f  : Option ((List (S69)) × Int) := some ((([(⟨(-1), (-1), 0, 0, (⟨0, (⟨#[]⟩ : ByteArray), (⟨#[]⟩ : ByteArray)⟩ : S24)⟩ : S69)] : List (S69))), 0)
set_option maxHeartbeats 8000000 in
set_option maxRecDepth 100000 in
theorem tree_New.calls  (r1 : List (S69)) (r2 : Int) (w : World) (h : tree_New.f  = some (r1, r2)) :
  Calls Try.prog 40 #[] w fun e w' => ∃ v0_ : Value, e = .returned (.agg #[v0_, .int .i64 r2]) ∧ Kd.R k69 69 w' w.heap.size (fun _ => True) v0_ r1 ∧ Below w.heap.size w w' := by
 have hu46 := Try.underlying46
 have hu69 := Try.underlying69
 have HB := Aside0.mk (Below.refl w.heap.size w)
 have H : (some ((([(⟨(-1), (-1), 0, 0, (⟨0, (⟨#[]⟩ : ByteArray), (⟨#[]⟩ : ByteArray)⟩ : S24)⟩ : S69)] : List (S69))), 0)) = some (r1, r2) := h
 clear h
 obtain ⟨y147, hy147⟩ : ∃ y_ : List (S69), y_ = (([(⟨(-1), (-1), 0, 0, (⟨0, (⟨#[]⟩ : ByteArray), (⟨#[]⟩ : ByteArray)⟩ : S24)⟩ : S69)] : List (S69))) := ⟨_, rfl⟩
 replace H : (some (y147, 0)) = some (r1, r2) := th_ H hy147
 have Ny147 := Aside0.mk hy147
 clear hy147
 simp only [Option.some.injEq, Prod.mk.injEq] at H
 obtain ⟨rfl, rfl⟩ := H
 go_enter Try.func40, Try.ntmps40
 go_wp2_with (first | ((with_reducible refine gate_dst (N := 0) rfl ?_); refine be_ (N := 0) (cs := #[.slice none 0 0, .int .i64 0]) (t := 46) (h := ?_); intro gb146 hg w1 hbox hb; have BK146 := Aside0.mk (hbox); have GW146 := gw_ HB hg; have GE146 := gw_ HB hg; replace HB := bs_ HB hb; clear hb hbox hg) | ((with_reducible refine gate_dst (N := 2) rfl ?_); refine Kd.R_lit k69 _ 69 ?hg (N := 2) ?hd (xs := ([(⟨(-1), (-1), 0, 0, (⟨0, (⟨#[]⟩ : ByteArray), (⟨#[]⟩ : ByteArray)⟩ : S24)⟩ : S69)] : List (S69))) (inner := [.int .i64 (-1), .int .i64 (-1), .int .i64 0, .int .i64 0, .int .i64 0, .string (⟨#[]⟩ : ByteArray), .string (⟨#[]⟩ : ByteArray)]) (ok := fun _ => True) (okp := fun _ => True) ?hr ?hp (fun _ hk => hk) trivial (Below.refl _ _) (Nat.le_refl _) (by simp) ?_; (case hd => rfl); (case hg => rfl); (case hr => first | (go_simp; done) | (go_simp; rfl)); (case hp => exact (Reps.c7 (show Kd.M k69 _ _ _ (⟨(-1), (-1), 0, 0, (⟨0, (⟨#[]⟩ : ByteArray), (⟨#[]⟩ : ByteArray)⟩ : S24)⟩ : S69) [.int .i64 (-1), .int .i64 (-1), .int .i64 0, .int .i64 0, .int .i64 0, .string (⟨#[]⟩ : ByteArray), .string (⟨#[]⟩ : ByteArray)] from (k69_mkM _ _ _ (⟨(-1), (-1), 0, 0, (⟨0, (⟨#[]⟩ : ByteArray), (⟨#[]⟩ : ByteArray)⟩ : S24)⟩ : S69) )) (Reps.none _ _))); intro v148 w2 ho3 hb hg_ hnew_; clear hg_ hnew_; (first | rw [← Ny147.out] at ho3 | (simp only [Int.reduceToNat] at ho3; rw [← Ny147.out] at ho3)); have HO149 := Aside0.mk (Kd.R_lower ho3 (below_size (hb_ HB))); replace BK146 := bb_ BK146 hb; replace HB := bs_ HB hb; clear hb ho3; obtain ⟨Ao4, co4, eo4⟩ := Kd.R_slice HO149.out; subst eo4; obtain ⟨hcz5_0, hcz5_1, hfz5_0, hfz5_1⟩ := bc2_ BK146))
 refine bodyPost_ret (results_cell_row rfl _ _ gb146 46 #[.slice Ao4 y147.length co4, .int .i64 0] (0, 0) _ rfl (bp_ BK146.out) Try.underlying46 rfl (by kernel_rfl)) rfl ?_
 exact ⟨_, er_, by (with_reducible repeat (first | apply Kd.R_alloc | apply Kd.R_drewN | apply Kd.R_drew)); exact Kd.R_mono (rf_ (Kd.R_types HO149.out BK146.out (by decide)) (fun _ hk => hk.2)) (fun _ hk => trivial), hb_ HB⟩

/-! ### tree_step: function 84 -/
def tree_step.f (l0_0 : List (S69)) (a0_1 : Int) (a0_2 : Bool) (a1 : Int) (a2 : Int) : Option ((List (S69)) × Int × Int × Bool) := (tree_book_copy.f l0_0 a0_1).bind fun bt152 => ((tree_book_has.f bt152.1 bt152.2 a1).bind fun t157 => (if t157 = true then (some (bt152.1, a1, a2, true)) else (some (bt152.1, bt152.2, 0, false))))
set_option maxHeartbeats 8000000 in
set_option maxRecDepth 100000 in
theorem tree_step.calls (A0_0 : Option Addr) (c0_0 : Nat) (l0_0 : List (S69)) (a0_1 : Int) (a0_2 : Bool) (a1 : Int) (a2 : Int) (r1 : List (S69)) (r2 : Int) (r3 : Int) (r4 : Bool) (w : World) (hr0_0 : Kd.C k69 w A0_0 l0_0.length l0_0) (hc0_0 : l0_0.length ≤ c0_0) (h : tree_step.f l0_0 a0_1 a0_2 a1 a2 = some (r1, r2, r3, r4)) :
  Calls Try.prog 84 #[.agg #[.slice A0_0 l0_0.length c0_0, .int .i64 a0_1, .bool a0_2], .int .i64 a1, .int .i64 a2] w fun e w' => ∃ v0_ : Value, e = .returned (.tuple #[.agg #[v0_, .int .i64 r2], .int .i64 r3, .bool r4]) ∧ Kd.R k69 69 w' w.heap.size (fun _ => True) v0_ r1 ∧ Below w.heap.size w w' := by
 have hu104 := Try.underlying104
 have hu46 := Try.underlying46
 have hu102 := Try.underlying102
 have HR0_0 := Aside0.mk hr0_0
 have HC0_0 := Aside0.mk hc0_0
 clear hr0_0 hc0_0
 have HB := Aside0.mk (Below.refl w.heap.size w)
 have H : ((tree_book_copy.f l0_0 a0_1).bind fun bt152 => ((tree_book_has.f bt152.1 bt152.2 a1).bind fun t157 => (if t157 = true then (some (bt152.1, a1, a2, true)) else (some (bt152.1, bt152.2, 0, false))))) = some (r1, r2, r3, r4) := h
 clear h
 replace H := Option.bind_eq_some_iff.mp H
 obtain ⟨⟨t152, t155⟩, A40, H⟩ := H
 replace H : ((tree_book_has.f t152 t155 a1).bind fun t157 => (if t157 = true then (some (t152, a1, a2, true)) else (some (t152, t155, 0, false)))) = some (r1, r2, r3, r4) := H
 have A4 := Aside0.mk A40
 clear A40
 replace H := Option.bind_eq_some_iff.mp H
 obtain ⟨t157, A50, H⟩ := H
 replace H : (if t157 = true then (some (t152, a1, a2, true)) else (some (t152, t155, 0, false))) = some (r1, r2, r3, r4) := H
 have A5 := Aside0.mk A50
 clear A50
 by_cases c6 : t157 = true
 ·subst c6
  have H1 : (some (t152, a1, a2, true)) = some (r1, r2, r3, r4) := by rw [if_pos rfl] at H; exact H
  clear H
  have H := H1
  clear H1
  simp only [Option.some.injEq, Prod.mk.injEq] at H
  obtain ⟨rfl, rfl, rfl, rfl⟩ := H
  go_enter Try.func84, Try.ntmps84
  go_wp2_with (first | ((with_reducible refine gate_dst (N := 3) rfl ?_); refine be_ (N := 3) (cs := #[.slice A0_0 l0_0.length c0_0, .int .i64 a0_1, .bool a0_2]) (t := 104) (h := ?_); intro gb150 hg w7 hbox hb; have BK150 := Aside0.mk (hbox); have GW150 := gw_ HB hg; have GE150 := gw_ HB hg; replace HB := bs_ HB hb; clear hb hbox hg) | ((with_reducible refine gate_dst (N := 6) rfl ?_); refine be_ (N := 6) (cs := #[.slice none 0 0, .int .i64 0]) (t := 46) (h := ?_); intro gb151 hg w8 hbox hb; have BK151 := Aside0.mk (hbox); have GW151 := gw_ HB hg; have GE151 := gw_ HB hg; have NB150_151 := ne_ BK150 hg; have NB151_150 := en_ BK150 hg; replace BK150 := bb_ BK150 hb; replace HB := bs_ HB hb; clear hb hbox hg; have hnb9 := NB150_151.out; have hnc9 := NB151_150.out; obtain ⟨hcz10_0, hcz10_1, hcz10_2, hfz10_0, hfz10_1, hfz10_2⟩ := bc3_ BK150) | ((with_reducible refine gate_callee (f := 80) rfl ?_); refine ge_ (some 12) rfl rfl Try.func80 (by kernel_rfl) rfl #[.agg #[.slice A0_0 l0_0.length c0_0, .int .i64 a0_1]] rfl (h := ?_); (with_reducible refine (tree_book_copy.calls _ _ l0_0 a0_1 t152 t155 _ ?side1 ?side2 A4.out).mono ?_); (case side1 => exact cw_ (Kd.C_below HR0_0.out HB.out)); (case side2 => exact HC0_0.out); rintro e w11 ⟨v153, rfl, ho0, hb⟩; refine ⟨_, rfl, ?_⟩; have HO154 := Aside0.mk (Kd.R_lower ho0 (below_size (hb_ HB))); replace BK150 := bb_ BK150 hb; replace BK151 := bb_ BK151 hb; replace HB := bs_ HB hb; (try clear hb); (try clear hb2); (try clear hk); (try clear hi); (try clear ho0)) | ((with_reducible refine gate_dst (N := 9) rfl ?_); refine be_ (N := 9) (cs := #[.slice none 0 0, .int .i64 0]) (t := 102) (h := ?_); intro gb156 hg w12 hbox hb; have BK156 := Aside0.mk (hbox); have GW156 := gw_ HB hg; have GE156 := gw_ HB hg; have NB150_156 := ne_ BK150 hg; have NB156_150 := en_ BK150 hg; have NB151_156 := ne_ BK151 hg; have NB156_151 := en_ BK151 hg; replace HO154 := Aside0.mk (Kd.R_below (rw_ HO154.out) hb); replace BK150 := bb_ BK150 hb; replace BK151 := bb_ BK151 hb; replace HB := bs_ HB hb; clear hb hbox hg; obtain ⟨Ao13, co13, eo13⟩ := Kd.R_slice HO154.out; subst eo13; have hnb14 := NB156_150.out; have hnc14 := NB150_156.out; have hnb15 := NB156_151.out; have hnc15 := NB151_156.out; obtain ⟨hcz16_0, hcz16_1, hfz16_0, hfz16_1⟩ := bc2_ BK156) | ((with_reducible refine gate_callee (f := 85) rfl ?_); refine ge_ (some 15) rfl rfl Try.func85 (by kernel_rfl) rfl #[.agg #[.slice Ao13 t152.length co13, .int .i64 t155], .int .i64 a1] rfl (h := ?_); (with_reducible refine (tree_book_has.calls _ _ t152 t155 a1 true _ ?side1 ?side2 A5.out).mono ?_); (case side1 => refine (Kd.R_reads' (e := 69) (base := w.heap.size) (ok := fun k_ => True) (n := t152.length) (c := co13) ?_).2.2; exact (by (with_reducible repeat (first | apply Kd.R_alloc | apply Kd.R_drewN | apply Kd.R_drew)); exact (Kd.R_mono (rf_ (Kd.R_types HO154.out BK156.out (by decide)) (fun _ hk => hk.2)) (fun _ h_ => h_.1)))); (case side2 => exact (Kd.R_reads' HO154.out).2.1); rintro e w17 ⟨rfl, hb⟩; refine ⟨_, rfl, ?_⟩; replace HO154 := Aside0.mk (Kd.R_below (by (with_reducible repeat (first | apply Kd.R_alloc | apply Kd.R_drewN | apply Kd.R_drew)); exact (Kd.R_mono (rf_ (Kd.R_types HO154.out BK156.out (by decide)) (fun _ hk => hk.2)) (fun _ h_ => h_.1))) hb); replace BK150 := Aside0.mk (blk_below (g := gb150) (o := .cells #[.slice A0_0 l0_0.length c0_0, .int .i64 a0_1, .bool a0_2] 104 (0, 0)) (bp_ BK150.out) hb); replace BK151 := Aside0.mk (blk_below (g := gb151) (o := .cells #[.slice none 0 0, .int .i64 0] 46 (0, 0)) (bp_ BK151.out) hb); replace HB := bs_ HB hb; replace BK156 := Aside0.mk (blk_below (g := gb156) (o := .cells #[.slice Ao13 t152.length co13, .int .i64 t155] 102 (0, 0)) (bp_ BK156.out) hb); (try clear hb); (try clear hb2); (try clear hk); (try clear hi); obtain ⟨hcz18_0, hcz18_1, hfz18_0, hfz18_1⟩ := bc2_ BK156; obtain ⟨hcz19_0, hcz19_1, hfz19_0, hfz19_1⟩ := bc2_ BK151))
  refine bodyPost_ret (results_ctt rfl _ _ gb151 46 #[.slice Ao13 t152.length co13, .int .i64 a1] (0, 0) _ rfl (bp_ BK151.out) Try.underlying46 rfl (by kernel_rfl)) rfl ?_
  exact ⟨_, er_, by (with_reducible repeat (first | apply Kd.R_alloc | apply Kd.R_drewN | apply Kd.R_drew)); exact Kd.R_mono (rf_ (Kd.R_far (p := ⟨gb156, 1, none⟩) (Kd.R_types (Kd.R_types HO154.out BK156.out (by decide)) BK151.out (by decide)) (fun _ hk => hk.1.2) (.int .i64 a1)) (fun _ hk => hk.2)) (fun _ hk => trivial), hb_ HB⟩
 ·replace c6 := Bool.eq_false_iff.mpr c6
  subst c6
  have H1 : (some (t152, t155, 0, false)) = some (r1, r2, r3, r4) := by rw [if_neg (show ¬ (false = true) by decide)] at H; exact H
  clear H
  have H := H1
  clear H1
  simp only [Option.some.injEq, Prod.mk.injEq] at H
  obtain ⟨rfl, rfl, rfl, rfl⟩ := H
  go_enter Try.func84, Try.ntmps84
  go_wp2_with (first | ((with_reducible refine gate_dst (N := 3) rfl ?_); refine be_ (N := 3) (cs := #[.slice A0_0 l0_0.length c0_0, .int .i64 a0_1, .bool a0_2]) (t := 104) (h := ?_); intro gb150 hg w20 hbox hb; have BK150 := Aside0.mk (hbox); have GW150 := gw_ HB hg; have GE150 := gw_ HB hg; replace HB := bs_ HB hb; clear hb hbox hg) | ((with_reducible refine gate_dst (N := 6) rfl ?_); refine be_ (N := 6) (cs := #[.slice none 0 0, .int .i64 0]) (t := 46) (h := ?_); intro gb151 hg w21 hbox hb; have BK151 := Aside0.mk (hbox); have GW151 := gw_ HB hg; have GE151 := gw_ HB hg; have NB150_151 := ne_ BK150 hg; have NB151_150 := en_ BK150 hg; replace BK150 := bb_ BK150 hb; replace HB := bs_ HB hb; clear hb hbox hg; have hnb22 := NB150_151.out; have hnc22 := NB151_150.out; obtain ⟨hcz23_0, hcz23_1, hcz23_2, hfz23_0, hfz23_1, hfz23_2⟩ := bc3_ BK150) | ((with_reducible refine gate_callee (f := 80) rfl ?_); refine ge_ (some 12) rfl rfl Try.func80 (by kernel_rfl) rfl #[.agg #[.slice A0_0 l0_0.length c0_0, .int .i64 a0_1]] rfl (h := ?_); (with_reducible refine (tree_book_copy.calls _ _ l0_0 a0_1 t152 t155 _ ?side1 ?side2 A4.out).mono ?_); (case side1 => exact cw_ (Kd.C_below HR0_0.out HB.out)); (case side2 => exact HC0_0.out); rintro e w24 ⟨v153, rfl, ho0, hb⟩; refine ⟨_, rfl, ?_⟩; have HO154 := Aside0.mk (Kd.R_lower ho0 (below_size (hb_ HB))); replace BK150 := bb_ BK150 hb; replace BK151 := bb_ BK151 hb; replace HB := bs_ HB hb; (try clear hb); (try clear hb2); (try clear hk); (try clear hi); (try clear ho0)) | ((with_reducible refine gate_dst (N := 9) rfl ?_); refine be_ (N := 9) (cs := #[.slice none 0 0, .int .i64 0]) (t := 102) (h := ?_); intro gb156 hg w25 hbox hb; have BK156 := Aside0.mk (hbox); have GW156 := gw_ HB hg; have GE156 := gw_ HB hg; have NB150_156 := ne_ BK150 hg; have NB156_150 := en_ BK150 hg; have NB151_156 := ne_ BK151 hg; have NB156_151 := en_ BK151 hg; replace HO154 := Aside0.mk (Kd.R_below (rw_ HO154.out) hb); replace BK150 := bb_ BK150 hb; replace BK151 := bb_ BK151 hb; replace HB := bs_ HB hb; clear hb hbox hg; obtain ⟨Ao26, co26, eo26⟩ := Kd.R_slice HO154.out; subst eo26; have hnb27 := NB156_150.out; have hnc27 := NB150_156.out; have hnb28 := NB156_151.out; have hnc28 := NB151_156.out; obtain ⟨hcz29_0, hcz29_1, hfz29_0, hfz29_1⟩ := bc2_ BK156) | ((with_reducible refine gate_callee (f := 85) rfl ?_); refine ge_ (some 15) rfl rfl Try.func85 (by kernel_rfl) rfl #[.agg #[.slice Ao26 t152.length co26, .int .i64 t155], .int .i64 a1] rfl (h := ?_); (with_reducible refine (tree_book_has.calls _ _ t152 t155 a1 false _ ?side1 ?side2 A5.out).mono ?_); (case side1 => refine (Kd.R_reads' (e := 69) (base := w.heap.size) (ok := fun k_ => True) (n := t152.length) (c := co26) ?_).2.2; exact (by (with_reducible repeat (first | apply Kd.R_alloc | apply Kd.R_drewN | apply Kd.R_drew)); exact (Kd.R_mono (rf_ (Kd.R_types HO154.out BK156.out (by decide)) (fun _ hk => hk.2)) (fun _ h_ => h_.1)))); (case side2 => exact (Kd.R_reads' HO154.out).2.1); rintro e w30 ⟨rfl, hb⟩; refine ⟨_, rfl, ?_⟩; replace HO154 := Aside0.mk (Kd.R_below (by (with_reducible repeat (first | apply Kd.R_alloc | apply Kd.R_drewN | apply Kd.R_drew)); exact (Kd.R_mono (rf_ (Kd.R_types HO154.out BK156.out (by decide)) (fun _ hk => hk.2)) (fun _ h_ => h_.1))) hb); replace BK150 := Aside0.mk (blk_below (g := gb150) (o := .cells #[.slice A0_0 l0_0.length c0_0, .int .i64 a0_1, .bool a0_2] 104 (0, 0)) (bp_ BK150.out) hb); replace BK151 := Aside0.mk (blk_below (g := gb151) (o := .cells #[.slice none 0 0, .int .i64 0] 46 (0, 0)) (bp_ BK151.out) hb); replace HB := bs_ HB hb; replace BK156 := Aside0.mk (blk_below (g := gb156) (o := .cells #[.slice Ao26 t152.length co26, .int .i64 t155] 102 (0, 0)) (bp_ BK156.out) hb); (try clear hb); (try clear hb2); (try clear hk); (try clear hi); obtain ⟨hcz31_0, hcz31_1, hfz31_0, hfz31_1⟩ := bc2_ BK156; obtain ⟨hcz32_0, hcz32_1, hfz32_0, hfz32_1⟩ := bc2_ BK151))
  refine bodyPost_ret (results_ctt rfl _ _ gb151 46 #[.slice Ao26 t152.length co26, .int .i64 t155] (0, 0) _ rfl (bp_ BK151.out) Try.underlying46 rfl (by kernel_rfl)) rfl ?_
  exact ⟨_, er_, by (with_reducible repeat (first | apply Kd.R_alloc | apply Kd.R_drewN | apply Kd.R_drew)); exact Kd.R_mono (rf_ (Kd.R_types HO154.out BK151.out (by decide)) (fun _ hk => hk.2)) (fun _ hk => trivial), hb_ HB⟩

end Go.Proofs.Ytkiokimpblimcaa.PTreeAdds
