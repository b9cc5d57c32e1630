/- Of the law calamus/calamuslaw11.TreeKeeps: each function as a plain Lean function, with a proof that the call comes to it; the row. By wip/tpl/own_print.py. Conditions: none but the row's own. -/
import Derived.Test.YtkiokimpblimcaaOTreeKeepsx0
import Derived.Test.YtkiokimpblimcaaOTreeKeepsx4
import Derived.Test.YtkiokimpblimcaaOTreeKeepsx7
import Derived.Test.YtkiokimpblimcaaOTreeKeepsx9
namespace Go.Proofs.Ytkiokimpblimcaa.PTreeKeeps
open Go.RowKit Go.Proofs.YtkiokimpblimcaaW.PrintWords Go.Proofs.YtkiokimpblimcaaW.PrintLast Go.Proofs.YtkiokimpblimcaaW.PrintMore
attribute [local go_sem] max2_int min2_int max_two min_two max_three min_three max_four min_four   -- for this text's walks alone
set_option linter.unusedVariables false
set_option linter.unusedSimpArgs false

/-! ### tree_Texts: function 55 -/
mutual
def tree_Texts.j1 : Nat → List ByteArray → List Bool → List (S69) → Int → Bool → Option (List ByteArray × Int)
 | 0, _, _, _, _, _ => none
 | k + 1, x7, x8, x270000, x270001, x270002 => tree_Texts.l1 k x7 x8 x270000 (x270000.length : Int) 0
def tree_Texts.l1 : Nat → List ByteArray → List Bool → List (S69) → Int → Int → Option (List ByteArray × Int)
 | 0, _, _, _, _, _ => none
 | k + 1, x7, x8, x78, x79, x80 => if x80 < x79 then (if 0 ≤ x80 then (if x80 < (x78.length : Int) then (if x80 < (x8.length : Int) then (if rdOf false x8 x80 = true then (tree_Texts.l1 k x7 x8 x78 x79 (wrap64 (x80 + 1))) else (if 0 ≤ ((rd_T69 x78 x80).f0) then (if ((rd_T69 x78 x80).f0) < (x7.length : Int) then ((change_Do.f k (rdOf ByteArray.empty x7 ((rd_T69 x78 x80).f0)) (([(⟨(rd_T69 x78 x80).f4.f0, (rd_T69 x78 x80).f4.f1, (rd_T69 x78 x80).f4.f2⟩ : S24)] : List (S24)))).bind fun bt298 => (if bt298.2 = 0 then (if x80 < (x7.length : Int) then (tree_Texts.l1 k (x7.set (x80 : Int).toNat bt298.1) x8 x78 x79 (wrap64 (x80 + 1))) else (none)) else (some (([] : List ByteArray), bt298.2)))) else (none)) else (none))) else (none)) else (none)) else (none)) else (some (x7, 0))
def tree_Texts.l0 : Nat → ByteArray → List ByteArray → List Bool → List Int → Int → Int → List (S69) → Int → Bool → Option (List ByteArray × Int)
 | 0, _, _, _, _, _, _, _, _, _ => none
 | k + 1, x1, x7, x8, x40, x41, x42, x270000, x270001, x270002 => if x42 < x41 then (if 0 ≤ x42 then (if x42 < (x40.length : Int) then (if 0 ≤ (rd x40 x42) then (if (rd x40 x42) < (x7.length : Int) then ((some (x7.set ((rd x40 x42) : Int).toNat x1 : List ByteArray)).bind fun y280 => (if (rd x40 x42) < (x8.length : Int) then ((some (x8.set ((rd x40 x42) : Int).toNat true : List Bool)).bind fun y281 => (if (rd x40 x42) = 0 then (tree_Texts.j1 k y280 y281 x270000 x270001 x270002) else (if (rd x40 x42) < (x270000.length : Int) then ((change_Turn.f ((rd_T69 x270000 (rd x40 x42)).f4.f0) ((rd_T69 x270000 (rd x40 x42)).f4.f1) ((rd_T69 x270000 (rd x40 x42)).f4.f2)).bind fun bt283 => ((change_Do.f k x1 (([(⟨bt283.1, bt283.2.1, bt283.2.2⟩ : S24)] : List (S24)))).bind fun bt289 => (if bt289.2 = 0 then (tree_Texts.l0 k bt289.1 y280 y281 x40 x41 (wrap64 (x42 + 1)) x270000 x270001 x270002) else (some (([] : List ByteArray), bt289.2))))) else (none)))) else (none))) else (none)) else (none)) else (none)) else (none)) else (tree_Texts.j1 k x7 x8 x270000 x270001 x270002)
end
def tree_Texts.f (k : Nat) (l0_0 : List (S69)) (a0_1 : Int) (a1 : ByteArray) : Option (List ByteArray × Int) := (tree_open.f k l0_0 a0_1).bind fun bt264 => (if bt264.2.2 = true then (if 0 ≤ (bt264.1.length : Int) then (if ((bt264.1.length : Int) : Int).toNat ≤ 17592186044416 then (if ((bt264.1.length : Int) : Int).toNat ≤ 281474976710656 then ((tree_book_up.f k bt264.1 bt264.2.1 bt264.2.1).bind fun t276 => (tree_Texts.l0 k a1 (List.replicate ((bt264.1.length : Int) : Int).toNat (⟨#[]⟩ : ByteArray)) (List.replicate ((bt264.1.length : Int) : Int).toNat false) t276 (t276.length : Int) 0 bt264.1 bt264.2.1 bt264.2.2)) else (none)) else (none)) else (none)) else (some (([] : List ByteArray), 1)))
theorem tree_Texts.mono_l : ∀ k, (∀ y0 y1 y2 y3 y4, LeO (tree_Texts.j1 k y0 y1 y2 y3 y4) (tree_Texts.j1 (k + 1) y0 y1 y2 y3 y4)) ∧ (∀ y0 y1 y2 y3 y4, LeO (tree_Texts.l1 k y0 y1 y2 y3 y4) (tree_Texts.l1 (k + 1) y0 y1 y2 y3 y4)) ∧ (∀ y0 y1 y2 y3 y4 y5 y6 y7 y8, LeO (tree_Texts.l0 k y0 y1 y2 y3 y4 y5 y6 y7 y8) (tree_Texts.l0 (k + 1) y0 y1 y2 y3 y4 y5 y6 y7 y8))
 | 0 => ⟨fun _ _ _ _ _ r h => by simp [tree_Texts.j1] at h, fun _ _ _ _ _ r h => by simp [tree_Texts.l1] at h, fun _ _ _ _ _ _ _ _ _ r h => by simp [tree_Texts.l0] at h⟩
 | k + 1 => by
  obtain ⟨ih0, ih1, ih2⟩ := tree_Texts.mono_l k
  refine ⟨?_, ?_, ?_⟩
  ·intro y0 y1 y2 y3 y4
   unfold tree_Texts.j1
   repeat' first
   | (with_reducible exact ih0 _ _ _ _ _)
   | (with_reducible exact ih1 _ _ _ _ _)
   | (with_reducible exact ih2 _ _ _ _ _ _ _ _ _)
   | (with_reducible exact change_Do.mono _ _ _)
   | (with_reducible exact tree_book_up.mono _ _ _ _)
   | (with_reducible exact tree_open.mono _ _ _)
   | (with_reducible exact LeO.refl _)
   | (with_reducible exact LeO.none _)
   | (with_reducible refine LeO.ite ?_ ?_)
   | (with_reducible refine LeO.bind ?_ (fun _ => ?_))
   | exact ih0 _ _ _ _ _
   | exact ih1 _ _ _ _ _
   | exact ih2 _ _ _ _ _ _ _ _ _
   | exact change_Do.mono _ _ _
   | exact tree_book_up.mono _ _ _ _
   | exact tree_open.mono _ _ _
   | exact LeO.none _
   | refine LeO.ite ?_ ?_
   | refine LeO.bind ?_ (fun _ => ?_)
  ·intro y0 y1 y2 y3 y4
   unfold tree_Texts.l1
   repeat' first
   | (with_reducible exact ih0 _ _ _ _ _)
   | (with_reducible exact ih1 _ _ _ _ _)
   | (with_reducible exact ih2 _ _ _ _ _ _ _ _ _)
   | (with_reducible exact change_Do.mono _ _ _)
   | (with_reducible exact tree_book_up.mono _ _ _ _)
   | (with_reducible exact tree_open.mono _ _ _)
   | (with_reducible exact LeO.refl _)
   | (with_reducible exact LeO.none _)
   | (with_reducible refine LeO.ite ?_ ?_)
   | (with_reducible refine LeO.bind ?_ (fun _ => ?_))
   | exact ih0 _ _ _ _ _
   | exact ih1 _ _ _ _ _
   | exact ih2 _ _ _ _ _ _ _ _ _
   | exact change_Do.mono _ _ _
   | exact tree_book_up.mono _ _ _ _
   | exact tree_open.mono _ _ _
   | exact LeO.none _
   | refine LeO.ite ?_ ?_
   | refine LeO.bind ?_ (fun _ => ?_)
  ·intro y0 y1 y2 y3 y4 y5 y6 y7 y8
   unfold tree_Texts.l0
   repeat' first
   | (with_reducible exact ih0 _ _ _ _ _)
   | (with_reducible exact ih1 _ _ _ _ _)
   | (with_reducible exact ih2 _ _ _ _ _ _ _ _ _)
   | (with_reducible exact change_Do.mono _ _ _)
   | (with_reducible exact tree_book_up.mono _ _ _ _)
   | (with_reducible exact tree_open.mono _ _ _)
   | (with_reducible exact LeO.refl _)
   | (with_reducible exact LeO.none _)
   | (with_reducible refine LeO.ite ?_ ?_)
   | (with_reducible refine LeO.bind ?_ (fun _ => ?_))
   | exact ih0 _ _ _ _ _
   | exact ih1 _ _ _ _ _
   | exact ih2 _ _ _ _ _ _ _ _ _
   | exact change_Do.mono _ _ _
   | exact tree_book_up.mono _ _ _ _
   | exact tree_open.mono _ _ _
   | exact LeO.none _
   | refine LeO.ite ?_ ?_
   | refine LeO.bind ?_ (fun _ => ?_)
theorem tree_Texts.mono : ∀ a0 a1 a2 k, LeO (tree_Texts.f k a0 a1 a2) (tree_Texts.f (k + 1) a0 a1 a2) := by
 intro a0 a1 a2 k
 obtain ⟨ih0, ih1, ih2⟩ := tree_Texts.mono_l k
 unfold tree_Texts.f
 repeat' first
   | (with_reducible exact ih0 _ _ _ _ _)
   | (with_reducible exact ih1 _ _ _ _ _)
   | (with_reducible exact ih2 _ _ _ _ _ _ _ _ _)
   | (with_reducible exact change_Do.mono _ _ _)
   | (with_reducible exact tree_book_up.mono _ _ _ _)
   | (with_reducible exact tree_open.mono _ _ _)
   | (with_reducible exact LeO.refl _)
   | (with_reducible exact LeO.none _)
   | (with_reducible refine LeO.ite ?_ ?_)
   | (with_reducible refine LeO.bind ?_ (fun _ => ?_))
   | exact ih0 _ _ _ _ _
   | exact ih1 _ _ _ _ _
   | exact ih2 _ _ _ _ _ _ _ _ _
   | exact change_Do.mono _ _ _
   | exact tree_book_up.mono _ _ _ _
   | exact tree_open.mono _ _ _
   | exact LeO.none _
   | refine LeO.ite ?_ ?_
   | refine LeO.bind ?_ (fun _ => ?_)
def tree_Texts.T20 : Bool × List (List Nat × List Nat) := (true, [([], []), ([], []), ([1], [1]), ([0, 2], [0, 2]), ([3], [3]), ([], []), ([5], [5]), ([6], [6]), ([4, 7], [4, 7]), ([8], [8]), ([9], [9]), ([9], [9]), ([10, 8, 0, 1, 2, 3, 4, 5, 6, 7, 8, 9, 10], [10]), ([11, 12, 0, 1, 2, 3, 4, 5, 6, 7, 8, 9, 10, 11, 12], [11])])
def tree_Texts.B20 : List Nat := [0, 0, 2, 7, 15, 0, 32, 96, 255, 511, 1023, 1023, 2047, 8191]
theorem tree_Texts.tab20 : rtab .any (opsOf Try.f55 20) = tree_Texts.T20 := by kernel_rfl
theorem tree_Texts.bits20 : waitsOk tree_Texts.T20.2 tree_Texts.B20 = true := by kernel_rfl
set_option maxHeartbeats 8000000 in
set_option maxRecDepth 100000 in
theorem tree_Texts.calls (k : Nat) (A0_0 : Option Addr) (c0_0 : Nat) (l0_0 : List (S69)) (a0_1 : Int) (a1 : ByteArray) (r1 : List ByteArray) (r2 : Int) (w : World) (hr0_0 : Kd.C k69 w A0_0 l0_0.length l0_0) (hc0_0 : l0_0.length ≤ c0_0) (h : tree_Texts.f k l0_0 a0_1 a1 = some (r1, r2)) :
  Calls Try.prog 55 #[.agg #[.slice A0_0 l0_0.length c0_0, .int .i64 a0_1], .string a1] w fun e w' => ∃ v0_ : Value, e = .returned (.tuple #[v0_, .int .i64 r2]) ∧ Kd.R Kd.string 9 w' w.heap.size (fun _ => True) v0_ r1 ∧ Below w.heap.size w w' := by
 have hu46 := Try.underlying46
 have hu104 := Try.underlying104
 have hu102 := Try.underlying102
 have hu24 := Try.underlying24
 have hu69 := Try.underlying69
 have HR0_0 := Aside0.mk hr0_0
 have HC0_0 := Aside0.mk hc0_0
 clear hr0_0 hc0_0
 have HB := Aside0.mk (Below.refl w.heap.size w)
 have H : ((tree_open.f k l0_0 a0_1).bind fun bt264 => (if bt264.2.2 = true then (if 0 ≤ (bt264.1.length : Int) then (if ((bt264.1.length : Int) : Int).toNat ≤ 17592186044416 then (if ((bt264.1.length : Int) : Int).toNat ≤ 281474976710656 then ((tree_book_up.f k bt264.1 bt264.2.1 bt264.2.1).bind fun t276 => (tree_Texts.l0 k a1 (List.replicate ((bt264.1.length : Int) : Int).toNat (⟨#[]⟩ : ByteArray)) (List.replicate ((bt264.1.length : Int) : Int).toNat false) t276 (t276.length : Int) 0 bt264.1 bt264.2.1 bt264.2.2)) else (none)) else (none)) else (none)) else (some (([] : List ByteArray), 1)))) = some (r1, r2) := h
 clear h
 replace H := Option.bind_eq_some_iff.mp H
 obtain ⟨⟨t264, t267, t268⟩, A30, H⟩ := H
 replace H : (if t268 = true then (if 0 ≤ (t264.length : Int) then (if ((t264.length : Int) : Int).toNat ≤ 17592186044416 then (if ((t264.length : Int) : Int).toNat ≤ 281474976710656 then ((tree_book_up.f k t264 t267 t267).bind fun t276 => (tree_Texts.l0 k a1 (List.replicate ((t264.length : Int) : Int).toNat (⟨#[]⟩ : ByteArray)) (List.replicate ((t264.length : Int) : Int).toNat false) t276 (t276.length : Int) 0 t264 t267 t268)) else (none)) else (none)) else (none)) else (some (([] : List ByteArray), 1))) = some (r1, r2) := H
 have A3 := Aside0.mk A30
 clear A30
 by_cases c4 : t268 = true
 ·subst c4
  have H1 : (if 0 ≤ (t264.length : Int) then (if ((t264.length : Int) : Int).toNat ≤ 17592186044416 then (if ((t264.length : Int) : Int).toNat ≤ 281474976710656 then ((tree_book_up.f k t264 t267 t267).bind fun t276 => (tree_Texts.l0 k a1 (List.replicate ((t264.length : Int) : Int).toNat (⟨#[]⟩ : ByteArray)) (List.replicate ((t264.length : Int) : Int).toNat false) t276 (t276.length : Int) 0 t264 t267 true)) else (none)) else (none)) else (none)) = some (r1, r2) := by rw [if_pos rfl] at H; exact H
  clear H
  have H := H1
  clear H1
  by_cases c5 : 0 ≤ (t264.length : Int)
  ·rw [if_pos c5] at H
   have c5b0 := eq_true c5
   have c5b1 : decide (0 ≤ (t264.length : Int)) = true := decide_eq_true c5
   clear c5
   by_cases c6 : ((t264.length : Int) : Int).toNat ≤ 17592186044416
   ·rw [if_pos c6] at H
    have c6b0 := eq_true c6
    have c6b1 : decide (((t264.length : Int) : Int).toNat ≤ 17592186044416) = true := decide_eq_true c6
    clear c6
    obtain ⟨y270, hy270⟩ : ∃ y_ : List ByteArray, y_ = (List.replicate ((t264.length : Int) : Int).toNat (⟨#[]⟩ : ByteArray)) := ⟨_, rfl⟩
    replace H : (if ((t264.length : Int) : Int).toNat ≤ 281474976710656 then ((tree_book_up.f k t264 t267 t267).bind fun t276 => (tree_Texts.l0 k a1 y270 (List.replicate ((t264.length : Int) : Int).toNat false) t276 (t276.length : Int) 0 t264 t267 true)) else (none)) = some (r1, r2) := th_ H hy270
    have Ny270 := Aside0.mk hy270
    clear hy270
    by_cases c7 : ((t264.length : Int) : Int).toNat ≤ 281474976710656
    ·rw [if_pos c7] at H
     have c7b0 := eq_true c7
     have c7b1 : decide (((t264.length : Int) : Int).toNat ≤ 281474976710656) = true := decide_eq_true c7
     clear c7
     obtain ⟨y273, hy273⟩ : ∃ y_ : List Bool, y_ = (List.replicate ((t264.length : Int) : Int).toNat false) := ⟨_, rfl⟩
     replace H : ((tree_book_up.f k t264 t267 t267).bind fun t276 => (tree_Texts.l0 k a1 y270 y273 t276 (t276.length : Int) 0 t264 t267 true)) = some (r1, r2) := th_ H hy273
     have Ny273 := Aside0.mk hy273
     clear hy273
     replace H := Option.bind_eq_some_iff.mp H
     obtain ⟨t276, A80, H⟩ := H
     replace H : (tree_Texts.l0 k a1 y270 y273 t276 (t276.length : Int) 0 t264 t267 true) = some (r1, r2) := H
     have A8 := Aside0.mk A80
     clear A80
     have HC9 := Aside0.mk H
     clear H
     go_enter Try.func55, Try.ntmps55
     go_upto_block 0 with (first | ((with_reducible refine gate_dst (N := 2) rfl ?_); refine be_ (N := 2) (cs := #[.slice A0_0 l0_0.length c0_0, .int .i64 a0_1]) (t := 46) (h := ?_); intro gb263 hg w10 hbox hb; have BK263 := Aside0.mk (hbox); have GW263 := gw_ HB hg; have GE263 := gw_ HB hg; replace HB := bs_ HB hb; clear hb hbox hg; obtain ⟨hcz11_0, hcz11_1, hfz11_0, hfz11_1⟩ := bc2_ BK263) | ((with_reducible refine gate_callee (f := 79) rfl ?_); refine ge_ (some 18) rfl rfl Try.func79 (by kernel_rfl) rfl #[.agg #[.slice A0_0 l0_0.length c0_0, .int .i64 a0_1]] rfl (h := ?_); (with_reducible refine (tree_open.calls k (fun k_ => k_ < w.heap.size) _ _ l0_0 a0_1 t264 t267 true _ ?side1 A3.out).mono ?_); (case side1 => exact Kd.V_mk HC0_0.out (Kd.F_below (Kd.C_F k69_heap HR0_0.out) (hb_ HB))); rintro e w12 ⟨v265, rfl, ho0, hb⟩; refine ⟨_, rfl, ?_⟩; have HO266 := Aside0.mk (Kd.V_lower (Kd.V_mono (ok' := fun k_ => k_ ≠ gb263) ho0 (fun k_ hk_ => Or.elim hk_ (fun hs_ => fun e_ => Nat.not_le.2 hs_ (by rw [e_]; exact GW263.out)) (fun hn_ => (Kd.freshB (g := gb263) (o := .cells #[.slice A0_0 l0_0.length c0_0, .int .i64 a0_1] 46 (0, 0)) (bw_ BK263.out) k_ hn_)))) (below_size (hb_ HB))); replace BK263 := bb_ BK263 hb; replace HB := bs_ HB hb; (try clear hb); (try clear hb2); (try clear hk); (try clear hi); (try clear ho0)) | ((with_reducible refine gate_dst (N := 6) rfl ?_); refine be_ (N := 6) (cs := #[.slice none 0 0, .int .i64 0, .bool false]) (t := 104) (h := ?_); intro gb269 hg w13 hbox hb; have BK269 := Aside0.mk (hbox); have GW269 := gw_ HB hg; have GE269 := gw_ HB hg; have NB263_269 := ne_ BK263 hg; have NB269_263 := en_ BK263 hg; replace HO266 := Aside0.mk (Kd.V_below (Kd.V_elderB (vw_ HO266.out) gb269 (Nat.le_of_eq hg.symm)) hb); replace BK263 := bb_ BK263 hb; replace HB := bs_ HB hb; clear hb hbox hg; obtain ⟨Ao14, co14, eo14⟩ := Kd.V_slice HO266.out; subst eo14; have hnb15 := NB269_263.out; have hnc15 := NB263_269.out; obtain ⟨hcz16_0, hcz16_1, hcz16_2, hfz16_0, hfz16_1, hfz16_2⟩ := bc3_ BK269) | ((with_reducible refine gate_dst (N := 27) rfl ?_); refine Kd.R_make Kd.string _ 9 rfl (N := 27) rfl 70 _ _ rfl (t264.length : Int) rfl rfl Try.underlying70 (.string ⟨#[]⟩) 16 info9 rfl (by decide) (by omega) (⟨#[]⟩ : ByteArray) (ok := fun _ => True) (okp := fun _ => True) rfl (fun _ hk => hk) trivial (of_decide_eq_true as_) (Nat.le_trans (Nat.mul_le_mul_right _ (of_decide_eq_true as_ : (t264.length : Int).toNat ≤ 17592186044416)) (by omega)) (Below.refl _ _) (Nat.le_refl _) ?_; intro v271 w17 ho18 hb hg_ hnew_; clear hg_ hnew_; (first | rw [← Ny270.out] at ho18 | (simp only [Int.reduceToNat] at ho18; rw [← Ny270.out] at ho18)); have HO272 := Aside0.mk (Kd.R_lower ho18 (below_size (hb_ HB))); replace HO266 := Aside0.mk (Kd.V_elder' (by (with_reducible repeat (first | apply Kd.V_alloc | apply Kd.V_drewN | apply Kd.V_drew)); exact (Kd.V_mono (vf_ (Kd.V_mono HO266.out (fun k_ hk => (⟨hk, hk.2⟩ : _ ∧ k_ ≠ gb269))) (fun _ hk => hk.2)) (fun _ h_ => h_.1))) (Kd.R_base ho18) hb); replace BK263 := Aside0.mk (blk_below (g := gb263) (o := .cells #[.slice A0_0 l0_0.length c0_0, .int .i64 a0_1] 46 (0, 0)) (bp_ BK263.out) hb); replace BK269 := Aside0.mk (blk_below (g := gb269) (o := .cells #[.slice Ao14 t264.length co14, .int .i64 t267, .bool true] 104 (0, 0)) (bp_ BK269.out) hb); replace HB := bs_ HB hb; clear hb ho18; obtain ⟨hcz19_0, hcz19_1, hcz19_2, hfz19_0, hfz19_1, hfz19_2⟩ := bc3_ BK269) | ((with_reducible refine gate_dst (N := 33) rfl ?_); refine Kd.R_make Kd.bool _ 4 rfl (N := 33) rfl 113 _ _ rfl (t264.length : Int) rfl rfl Try.underlying113 (.bool false) 1 info4 rfl (by decide) (by omega) false (ok := fun _ => True) (okp := fun _ => True) rfl (fun _ hk => hk) trivial (of_decide_eq_true as_) (Nat.le_trans (Nat.mul_le_mul_right _ (of_decide_eq_true as_ : (t264.length : Int).toNat ≤ 281474976710656)) (by omega)) (Below.refl _ _) (Nat.le_refl _) ?_; intro v274 w20 ho21 hb hg_ hnew_; clear hg_ hnew_; (first | rw [← Ny273.out] at ho21 | (simp only [Int.reduceToNat] at ho21; rw [← Ny273.out] at ho21)); have HO275 := Aside0.mk (Kd.R_lower ho21 (below_size (hb_ HB))); replace HO266 := Aside0.mk (Kd.V_elder' (vw_ HO266.out) (Kd.R_base ho21) hb); replace HO272 := Aside0.mk (Kd.R_below (rw_ HO272.out) hb); replace BK263 := bb_ BK263 hb; replace BK269 := bb_ BK269 hb; replace HB := bs_ HB hb; clear hb ho21; obtain ⟨hcz22_0, hcz22_1, hcz22_2, hfz22_0, hfz22_1, hfz22_2⟩ := bc3_ BK269) | ((with_reducible refine gate_callee (f := 87) rfl ?_); refine ge_ (some 40) rfl rfl Try.func87 (by kernel_rfl) rfl #[.agg #[.slice Ao14 t264.length co14, .int .i64 t267], .int .i64 t267] rfl (h := ?_); (with_reducible refine (tree_book_up.calls k _ _ t264 t267 t267 t276 _ ?side1 ?side2 A8.out).mono ?_); (case side1 => repeat (first | exact (Kd.V_reads' HO266.out).2.2 | (with_reducible refine Kd.C_alloc ?_ _) | (with_reducible refine Kd.C_drewN ?_ _) | (with_reducible refine Kd.C_drew ?_))); (case side2 => exact (Kd.V_reads' HO266.out).2.1); rintro e w23 ⟨v277, rfl, ho0, hb⟩; refine ⟨_, rfl, ?_⟩; have HO278 := Aside0.mk (Kd.R_lower ho0 (below_size (hb_ HB))); replace HO266 := Aside0.mk (Kd.V_elder' (vw_ HO266.out) (Kd.R_base ho0) hb); replace HO272 := Aside0.mk (Kd.R_below (rw_ HO272.out) hb); replace HO275 := Aside0.mk (Kd.R_below (rw_ HO275.out) hb); replace BK263 := bb_ BK263 hb; replace BK269 := bb_ BK269 hb; replace HB := bs_ HB hb; (try clear hb); (try clear hb2); (try clear hk); (try clear hi); (try clear ho0); obtain ⟨Ao24, co24, eo24⟩ := Kd.R_slice HO278.out; subst eo24))
     (try simp only [Act.put, List.setIfInBounds_toArray, List.set_cons_zero, List.set_cons_succ])
     go_cut [] (fun wc => ∃ (kq : Nat) (x7_8 : List ByteArray) (x8_8 : List Bool), Aside0 (tree_Texts.j1 kq x7_8 x8_8 t264 t267 true = some (r1, r2)) ∧ Aside0 (kq ≤ k) ∧ Aside0 (Kd.R Kd.string 9 wc w.heap.size (fun _ => True) v271 x7_8) ∧ Aside0 (Kd.R Kd.bool 4 wc w.heap.size (fun _ => True) v274 x8_8) ∧ Aside0 (Kd.V k69 69 wc w.heap.size (fun k_ => some k_ ≠ (v271 : Value).ownBlock ∧ some k_ ≠ (v274 : Value).ownBlock ∧ k_ ≠ gb263 ∧ k_ ≠ gb269) (.slice Ao14 t264.length co14) t264) ∧ Aside0 (wc.heap[gb263]? = some (.cells #[(.slice A0_0 l0_0.length c0_0), .int .i64 a0_1] 46 (0, 0))) ∧ Aside0 (wc.heap[gb269]? = some (.cells #[(.slice Ao14 t264.length co14), .int .i64 t267, .bool true] 104 (0, 0))) ∧ Aside0 (Below w.heap.size w wc))
     case first =>
      have H := HC9.out
      clear HC9
      have H' := Aside0.mk H
      clear H
      go_wp2
      go_loopg [1, 42] k (fun kq v1 v42 w' => ∃ (x1_1 : ByteArray) (x7_1 : List ByteArray) (x8_1 : List Bool) (x42_1 : Int), v1 = .string x1_1 ∧ v42 = .int .i64 x42_1 ∧ Aside0 (tree_Texts.l0 kq x1_1 x7_1 x8_1 t276 (t276.length : Int) x42_1 t264 t267 true = some (r1, r2)) ∧ Aside0 (kq ≤ k) ∧ Aside0 (Kd.R Kd.string 9 w' w.heap.size (fun _ => True) v271 x7_1) ∧ Aside0 (Kd.R Kd.bool 4 w' w.heap.size (fun _ => True) v274 x8_1) ∧ Aside0 (Kd.R (Kd.int .i64) 3 w' w.heap.size (fun _ => True) (.slice Ao24 t276.length co24) t276) ∧ Aside0 (Kd.V k69 69 w' w.heap.size (fun k_ => some k_ ≠ (v271 : Value).ownBlock ∧ some k_ ≠ (v274 : Value).ownBlock ∧ some k_ ≠ ((.slice Ao24 t276.length co24) : Value).ownBlock ∧ k_ ≠ gb263 ∧ k_ ≠ gb269) (.slice Ao14 t264.length co14) t264) ∧ Aside0 (w'.heap[gb263]? = some (.cells #[(.slice A0_0 l0_0.length c0_0), .int .i64 a0_1] 46 (0, 0))) ∧ Aside0 (w'.heap[gb269]? = some (.cells #[(.slice Ao14 t264.length co14), .int .i64 t267, .bool true] 104 (0, 0))) ∧ Aside0 (Below w.heap.size w w'))
      case atStart => exact ⟨(a1), (y270), (y273), (0), es_, es_, H', ⟨Nat.le_refl _⟩, ⟨rw_ HO272.out⟩, ⟨rw_ HO275.out⟩, ⟨rw_ HO278.out⟩, ⟨by (with_reducible repeat (first | apply Kd.V_alloc | apply Kd.V_drewN | apply Kd.V_drew)); exact Kd.V_mono HO266.out (fun _ hk => ⟨hk.1.1.2, ⟨hk.1.2, ⟨hk.2, ⟨hk.1.1.1.1, hk.1.1.1.2⟩⟩⟩⟩)⟩, ⟨bw_ BK263.out⟩, ⟨bw_ BK269.out⟩, ⟨hb_ HB⟩⟩
      case round =>
       clear H'
       try clear c4
       try clear c5
       try clear c5b0
       try clear c5b1
       try clear c6
       try clear c6b0
       try clear c6b1
       try clear c7
       try clear c7b0
       try clear c7b1
       try clear hcz11_0
       try clear hcz11_1
       try clear hcz16_0
       try clear hcz16_1
       try clear hcz16_2
       try clear hcz19_0
       try clear hcz19_1
       try clear hcz19_2
       try clear hcz22_0
       try clear hcz22_1
       try clear hcz22_2
       try clear hfz11_0
       try clear hfz11_1
       try clear hfz16_0
       try clear hfz16_1
       try clear hfz16_2
       try clear hfz19_0
       try clear hfz19_1
       try clear hfz19_2
       try clear hfz22_0
       try clear hfz22_1
       try clear hfz22_2
       obtain ⟨x1_1, x7_1, x8_1, x42_1, rfl, rfl, HA, HK1, HO_7, HO_8, HO_40, HO_270000, BK263, BK269, HB⟩ := hrel
       cases gk with
       | zero => exact absurd HA.out (by simp [tree_Texts.l0])
       | succ k1 =>
        have H := HA.out
        clear HA
        simp only [tree_Texts.l0] at H
        by_cases c25 : x42_1 < (t276.length : Int)
        ·rw [if_pos c25] at H
         have c25b0 : decide (x42_1 < (t276.length : Int)) = true := decide_eq_true c25
         clear c25
         (first | rw [c25b0] | (simp only [i64_w, i32_w]; rw [c25b0]) | skip)
         by_cases c26 : 0 ≤ x42_1
         ·rw [if_pos c26] at H
          have c26b0 : decide (0 ≤ x42_1) = true := decide_eq_true c26
          clear c26
          by_cases c27 : x42_1 < (t276.length : Int)
          ·rw [if_pos c27] at H
           have c27b0 : decide (x42_1 < (t276.length : Int)) = true := decide_eq_true c27
           clear c27
           by_cases c28 : 0 ≤ (rd t276 x42_1)
           ·rw [if_pos c28] at H
            have c28b0 : decide (0 ≤ (rd t276 x42_1)) = true := decide_eq_true c28
            clear c28
            by_cases c29 : (rd t276 x42_1) < (x7_1.length : Int)
            ·rw [if_pos c29] at H
             have c29b0 : decide ((rd t276 x42_1) < (x7_1.length : Int)) = true := decide_eq_true c29
             clear c29
             obtain ⟨y280, hy280⟩ : ∃ y_ : List ByteArray, y_ = (x7_1.set ((rd t276 x42_1) : Int).toNat x1_1) := ⟨_, rfl⟩
             replace H : (if (rd t276 x42_1) < (x8_1.length : Int) then ((some (x8_1.set ((rd t276 x42_1) : Int).toNat true : List Bool)).bind fun y281 => (if (rd t276 x42_1) = 0 then (tree_Texts.j1 k1 y280 y281 t264 t267 true) else (if (rd t276 x42_1) < (t264.length : Int) then ((change_Turn.f ((rd_T69 t264 (rd t276 x42_1)).f4.f0) ((rd_T69 t264 (rd t276 x42_1)).f4.f1) ((rd_T69 t264 (rd t276 x42_1)).f4.f2)).bind fun bt283 => ((change_Do.f k1 x1_1 (([(⟨bt283.1, bt283.2.1, bt283.2.2⟩ : S24)] : List (S24)))).bind fun bt289 => (if bt289.2 = 0 then (tree_Texts.l0 k1 bt289.1 y280 y281 t276 (t276.length : Int) (wrap64 (x42_1 + 1)) t264 t267 true) else (some (([] : List ByteArray), bt289.2))))) else (none)))) else (none)) = some (r1, r2) := th_ H hy280
             have Ny280 := Aside0.mk hy280
             clear hy280
             by_cases c31 : (rd t276 x42_1) < (x8_1.length : Int)
             ·rw [if_pos c31] at H
              have c31b0 : decide ((rd t276 x42_1) < (x8_1.length : Int)) = true := decide_eq_true c31
              clear c31
              obtain ⟨y281, hy281⟩ : ∃ y_ : List Bool, y_ = (x8_1.set ((rd t276 x42_1) : Int).toNat true) := ⟨_, rfl⟩
              replace H : (if (rd t276 x42_1) = 0 then (tree_Texts.j1 k1 y280 y281 t264 t267 true) else (if (rd t276 x42_1) < (t264.length : Int) then ((change_Turn.f ((rd_T69 t264 (rd t276 x42_1)).f4.f0) ((rd_T69 t264 (rd t276 x42_1)).f4.f1) ((rd_T69 t264 (rd t276 x42_1)).f4.f2)).bind fun bt283 => ((change_Do.f k1 x1_1 (([(⟨bt283.1, bt283.2.1, bt283.2.2⟩ : S24)] : List (S24)))).bind fun bt289 => (if bt289.2 = 0 then (tree_Texts.l0 k1 bt289.1 y280 y281 t276 (t276.length : Int) (wrap64 (x42_1 + 1)) t264 t267 true) else (some (([] : List ByteArray), bt289.2))))) else (none))) = some (r1, r2) := th_ H hy281
              have Ny281 := Aside0.mk hy281
              clear hy281
              by_cases c33 : (rd t276 x42_1) = 0
              ·rw [if_pos c33] at H
               have c33b0 : ((rd t276 x42_1) == 0) = true := beq_iff_eq.mpr c33
               have c33b1 : ((rd t276 x42_1) != 0) = false := bne_eq_false_iff_eq.mpr c33
               clear c33
               have H' := Aside0.mk H
               clear H
               have p279 : 0 ≤ (x42_1 : Int) := of_decide_eq_true as_
               have q279 : x42_1 < (t276.length : Int) := of_decide_eq_true as_
               obtain ⟨ad279, e279, hx279_0⟩ := Kd.at_int (Kd.R_reads' HO_40.out).2.2 x42_1 p279 q279
               cases e279
               replace p279 := eq_true p279
               replace q279 := eq_true q279
               have p30 : 0 ≤ ((rd t276 x42_1) : Int) := of_decide_eq_true as_
               have q30 : ((rd t276 x42_1) : Int) < ((x7_1.length : Int) : Int) := of_decide_eq_true as_
               obtain ⟨go30, co30, eo30, gb30, gl30, cl30, HG30⟩ := Kd.R_form HO_7.out (by omega)
               (first | cases eo30 | (injection eo30 with ea_ en_ ec_; (first | subst ea_ | (injection ea_ with ea_; subst ea_)); subst ec_; clear en_))
               have GB30 := Aside0.mk gb30
               have GG30 := Aside0.mk HG30
               clear gb30 gl30 HG30
               obtain ⟨hx30_0, hf30_0⟩ := Kd.R_celln (⟨#[]⟩ : ByteArray) HO_7.out ((rd t276 x42_1) : Int) p30 q30
               replace p30 := eq_true p30
               replace q30 := eq_true q30
               have HP34 := Kd.R_putg HO_7.out ((rd t276 x42_1) : Int) x1_1
               go_wp2_with (first | ((with_reducible refine gate_store (t := 9) (p := 51) rfl ?_); refine store_event (t := 9) (p := 51) (v := ?vo_w35) (w1 := (wr.setCell ⟨go30, ((rd t276 x42_1) : Int).toNat, none⟩ (.string x1_1))) ?hg ?ho ?hn ?hr ?_; (case ho => rfl); (case hg => rfl); (case hn => rfl); (case hr => first | (go_simp; done) | (go_simp; rfl)); intro w35 hw; have hg : wr.grownBy w35 (some go30) := (by rw [hw]; exact HP34.2); have hp_ : Kd.R Kd.string 9 w35 w.heap.size (fun _ => True) (.slice (some ⟨go30, 0, none⟩) x7_1.length co30) y280 := (by rw [hw, Ny280.out]; exact HP34.1); clear HP34; replace HO_8 := Aside0.mk (Kd.R_over' (v := (.slice (some ⟨go30, 0, none⟩) x7_1.length co30)) (rw_ HO_8.out) (Kd.R_typed HO_7.out) (by decide) hg); replace HO_40 := Aside0.mk (Kd.R_over' (v := (.slice (some ⟨go30, 0, none⟩) x7_1.length co30)) (rw_ HO_40.out) (Kd.R_typed HO_7.out) (by decide) hg); replace HO_270000 := Aside0.mk (Kd.V_afterv (v := (.slice (some ⟨go30, 0, none⟩) x7_1.length co30)) (v1 := (.slice (some ⟨go30, 0, none⟩) x7_1.length co30)) (ok := (fun k_ => some k_ ≠ (v274 : Value).ownBlock ∧ some k_ ≠ (.slice (some ad279) t276.length co24 : Value).ownBlock ∧ k_ ≠ gb263 ∧ k_ ≠ gb269)) (by (with_reducible repeat (first | apply Kd.V_alloc | apply Kd.V_drewN | apply Kd.V_drew)); exact Kd.V_mono HO_270000.out (fun _ hk => ⟨⟨hk.2.1, ⟨hk.2.2.1, ⟨hk.2.2.2.1, hk.2.2.2.2⟩⟩⟩, hk.1⟩)) hg (.inl rfl)); replace BK263 := Aside0.mk (blk_grown (g := gb263) (o := .cells #[.slice A0_0 l0_0.length c0_0, .int .i64 a0_1] 46 (0, 0)) (bw_ BK263.out) hg (Kd.R_ne HO_7.out BK263.out (by decide))); replace BK269 := Aside0.mk (blk_grown (g := gb269) (o := .cells #[.slice Ao14 t264.length co14, .int .i64 t267, .bool true] 104 (0, 0)) (bw_ BK269.out) hg (Kd.R_ne HO_7.out BK269.out (by decide))); replace HB := Aside0.mk ((by rw [hw]; exact below_set (HB.out) GB30.out : Below w.heap.size w w35)); replace HO_7 := Aside0.mk (hp_); clear hg hw hp_; have p32 : 0 ≤ ((rd t276 x42_1) : Int) := of_decide_eq_true as_; have q32 : ((rd t276 x42_1) : Int) < ((x8_1.length : Int) : Int) := of_decide_eq_true as_; obtain ⟨go32, co32, eo32, gb32, gl32, cl32, HG32⟩ := Kd.R_form HO_8.out (by omega); (first | cases eo32 | (injection eo32 with ea_ en_ ec_; (first | subst ea_ | (injection ea_ with ea_; subst ea_)); subst ec_; clear en_)); have GB32 := Aside0.mk gb32; have GG32 := Aside0.mk HG32; clear gb32 gl32 HG32; obtain ⟨hx32_0, hf32_0⟩ := Kd.R_celln false HO_8.out ((rd t276 x42_1) : Int) p32 q32; replace p32 := eq_true p32; replace q32 := eq_true q32; obtain ⟨hy36_, hz36_⟩ := Kd.R_celln false HO_8.out ((rd t276 x42_1) : Int) (of_decide_eq_true as_) (of_decide_eq_true as_); have HP36 := Kd.R_putg HO_8.out ((rd t276 x42_1) : Int) true) | ((with_reducible refine gate_store (t := 4) (p := 52) rfl ?_); refine store_event (t := 4) (p := 52) (v := ?vo_w37) (w1 := (w35.setCell ⟨go32, ((rd t276 x42_1) : Int).toNat, none⟩ (.bool true))) ?hg ?ho ?hn ?hr ?_; (case ho => rfl); (case hg => rfl); (case hn => rfl); (case hr => first | (go_simp; done) | (go_simp; rfl)); intro w37 hw; have hg : w35.grownBy w37 (some go32) := (by rw [hw]; exact HP36.2); have hp_ : Kd.R Kd.bool 4 w37 w.heap.size (fun _ => True) (.slice (some ⟨go32, 0, none⟩) x8_1.length co32) y281 := (by rw [hw, Ny281.out]; exact HP36.1); clear HP36; replace HO_7 := Aside0.mk (Kd.R_over' (v := (.slice (some ⟨go32, 0, none⟩) x8_1.length co32)) (rw_ HO_7.out) (Kd.R_typed HO_8.out) (by decide) hg); replace HO_40 := Aside0.mk (Kd.R_over' (v := (.slice (some ⟨go32, 0, none⟩) x8_1.length co32)) (rw_ HO_40.out) (Kd.R_typed HO_8.out) (by decide) hg); replace HO_270000 := Aside0.mk (Kd.V_afterv (v := (.slice (some ⟨go32, 0, none⟩) x8_1.length co32)) (v1 := (.slice (some ⟨go32, 0, none⟩) x8_1.length co32)) (ok := (fun k_ => some k_ ≠ (.slice (some ⟨go30, 0, none⟩) x7_1.length co30 : Value).ownBlock ∧ some k_ ≠ (.slice (some ad279) t276.length co24 : Value).ownBlock ∧ k_ ≠ gb263 ∧ k_ ≠ gb269)) (by (with_reducible repeat (first | apply Kd.V_alloc | apply Kd.V_drewN | apply Kd.V_drew)); exact Kd.V_mono HO_270000.out (fun _ hk => ⟨⟨hk.2, ⟨hk.1.2.1, ⟨hk.1.2.2.1, hk.1.2.2.2⟩⟩⟩, hk.1.1⟩)) hg (.inl rfl)); replace BK263 := Aside0.mk (blk_grown (g := gb263) (o := .cells #[.slice A0_0 l0_0.length c0_0, .int .i64 a0_1] 46 (0, 0)) (bw_ BK263.out) hg (Kd.R_ne HO_8.out BK263.out (by decide))); replace BK269 := Aside0.mk (blk_grown (g := gb269) (o := .cells #[.slice Ao14 t264.length co14, .int .i64 t267, .bool true] 104 (0, 0)) (bw_ BK269.out) hg (Kd.R_ne HO_8.out BK269.out (by decide))); replace HB := Aside0.mk ((by rw [hw]; exact below_set (HB.out) GB32.out : Below w.heap.size w w37)); replace HO_8 := Aside0.mk (hp_); clear hg hw hp_))
               go_meet
               case rel => exact ⟨_, (y280), (y281), H', ⟨by have := HK1.out; first | omega | exact Nat.le_refl _⟩, ⟨rw_ HO_7.out⟩, ⟨rw_ HO_8.out⟩, ⟨by (with_reducible repeat (first | apply Kd.V_alloc | apply Kd.V_drewN | apply Kd.V_drew)); exact Kd.V_mono HO_270000.out (fun _ hk => ⟨hk.1.1, ⟨hk.2, ⟨hk.1.2.2.1, hk.1.2.2.2⟩⟩⟩)⟩, ⟨bw_ BK263.out⟩, ⟨bw_ BK269.out⟩, ⟨hb_ HB⟩⟩
              ·rw [if_neg c33] at H
               have c33b0 : ((rd t276 x42_1) == 0) = false := beq_eq_false_iff_ne.mpr c33
               have c33b1 : ((rd t276 x42_1) != 0) = true := bne_iff_ne.mpr c33
               by_cases c38 : (rd t276 x42_1) < (t264.length : Int)
               ·rw [if_pos c38] at H
                have c38b0 : decide ((rd t276 x42_1) < (t264.length : Int)) = true := decide_eq_true c38
                clear c38
                replace H := Option.bind_eq_some_iff.mp H
                obtain ⟨⟨t283, t284, t285⟩, A390, H⟩ := H
                replace H : ((change_Do.f k1 x1_1 (([(⟨t283, t284, t285⟩ : S24)] : List (S24)))).bind fun bt289 => (if bt289.2 = 0 then (tree_Texts.l0 k1 bt289.1 y280 y281 t276 (t276.length : Int) (wrap64 (x42_1 + 1)) t264 t267 true) else (some (([] : List ByteArray), bt289.2)))) = some (r1, r2) := H
                have A39 := Aside0.mk A390
                clear A390
                obtain ⟨y286, hy286⟩ : ∃ y_ : List (S24), y_ = (([(⟨t283, t284, t285⟩ : S24)] : List (S24))) := ⟨_, rfl⟩
                replace H : ((change_Do.f k1 x1_1 y286).bind fun bt289 => (if bt289.2 = 0 then (tree_Texts.l0 k1 bt289.1 y280 y281 t276 (t276.length : Int) (wrap64 (x42_1 + 1)) t264 t267 true) else (some (([] : List ByteArray), bt289.2)))) = some (r1, r2) := th_ H hy286
                have Ny286 := Aside0.mk hy286
                clear hy286
                replace H := Option.bind_eq_some_iff.mp H
                obtain ⟨⟨t289, t290⟩, A400, H⟩ := H
                replace H : (if t290 = 0 then (tree_Texts.l0 k1 t289 y280 y281 t276 (t276.length : Int) (wrap64 (x42_1 + 1)) t264 t267 true) else (some (([] : List ByteArray), t290))) = some (r1, r2) := H
                have A40 := Aside0.mk A400
                clear A400
                by_cases c41 : t290 = 0
                ·rw [if_pos c41] at H
                 have c41b0 : (t290 == 0) = true := beq_iff_eq.mpr c41
                 have c41b1 : (t290 != 0) = false := bne_eq_false_iff_eq.mpr c41
                 clear c41
                 have H' := Aside0.mk H
                 clear H
                 have p279 : 0 ≤ (x42_1 : Int) := of_decide_eq_true as_
                 have q279 : x42_1 < (t276.length : Int) := of_decide_eq_true as_
                 obtain ⟨ad279, e279, hx279_0⟩ := Kd.at_int (Kd.R_reads' HO_40.out).2.2 x42_1 p279 q279
                 cases e279
                 replace p279 := eq_true p279
                 replace q279 := eq_true q279
                 have p30 : 0 ≤ ((rd t276 x42_1) : Int) := of_decide_eq_true as_
                 have q30 : ((rd t276 x42_1) : Int) < ((x7_1.length : Int) : Int) := of_decide_eq_true as_
                 obtain ⟨go30, co30, eo30, gb30, gl30, cl30, HG30⟩ := Kd.R_form HO_7.out (by omega)
                 (first | cases eo30 | (injection eo30 with ea_ en_ ec_; (first | subst ea_ | (injection ea_ with ea_; subst ea_)); subst ec_; clear en_))
                 have GB30 := Aside0.mk gb30
                 have GG30 := Aside0.mk HG30
                 clear gb30 gl30 HG30
                 obtain ⟨hx30_0, hf30_0⟩ := Kd.R_celln (⟨#[]⟩ : ByteArray) HO_7.out ((rd t276 x42_1) : Int) p30 q30
                 replace p30 := eq_true p30
                 replace q30 := eq_true q30
                 have HP42 := Kd.R_putg HO_7.out ((rd t276 x42_1) : Int) x1_1
                 go_wp2_with (first | ((with_reducible refine gate_store (t := 9) (p := 51) rfl ?_); refine store_event (t := 9) (p := 51) (v := ?vo_w43) (w1 := (wr.setCell ⟨go30, ((rd t276 x42_1) : Int).toNat, none⟩ (.string x1_1))) ?hg ?ho ?hn ?hr ?_; (case ho => rfl); (case hg => rfl); (case hn => rfl); (case hr => first | (go_simp; done) | (go_simp; rfl)); intro w43 hw; have hg : wr.grownBy w43 (some go30) := (by rw [hw]; exact HP42.2); have hp_ : Kd.R Kd.string 9 w43 w.heap.size (fun _ => True) (.slice (some ⟨go30, 0, none⟩) x7_1.length co30) y280 := (by rw [hw, Ny280.out]; exact HP42.1); clear HP42; replace HO_8 := Aside0.mk (Kd.R_over' (v := (.slice (some ⟨go30, 0, none⟩) x7_1.length co30)) (rw_ HO_8.out) (Kd.R_typed HO_7.out) (by decide) hg); replace HO_40 := Aside0.mk (Kd.R_over' (v := (.slice (some ⟨go30, 0, none⟩) x7_1.length co30)) (rw_ HO_40.out) (Kd.R_typed HO_7.out) (by decide) hg); replace HO_270000 := Aside0.mk (Kd.V_afterv (v := (.slice (some ⟨go30, 0, none⟩) x7_1.length co30)) (v1 := (.slice (some ⟨go30, 0, none⟩) x7_1.length co30)) (ok := (fun k_ => some k_ ≠ (v274 : Value).ownBlock ∧ some k_ ≠ (.slice (some ad279) t276.length co24 : Value).ownBlock ∧ k_ ≠ gb263 ∧ k_ ≠ gb269)) (by (with_reducible repeat (first | apply Kd.V_alloc | apply Kd.V_drewN | apply Kd.V_drew)); exact Kd.V_mono HO_270000.out (fun _ hk => ⟨⟨hk.2.1, ⟨hk.2.2.1, ⟨hk.2.2.2.1, hk.2.2.2.2⟩⟩⟩, hk.1⟩)) hg (.inl rfl)); replace BK263 := Aside0.mk (blk_grown (g := gb263) (o := .cells #[.slice A0_0 l0_0.length c0_0, .int .i64 a0_1] 46 (0, 0)) (bw_ BK263.out) hg (Kd.R_ne HO_7.out BK263.out (by decide))); replace BK269 := Aside0.mk (blk_grown (g := gb269) (o := .cells #[.slice Ao14 t264.length co14, .int .i64 t267, .bool true] 104 (0, 0)) (bw_ BK269.out) hg (Kd.R_ne HO_7.out BK269.out (by decide))); replace HB := Aside0.mk ((by rw [hw]; exact below_set (HB.out) GB30.out : Below w.heap.size w w43)); replace HO_7 := Aside0.mk (hp_); clear hg hw hp_; have p32 : 0 ≤ ((rd t276 x42_1) : Int) := of_decide_eq_true as_; have q32 : ((rd t276 x42_1) : Int) < ((x8_1.length : Int) : Int) := of_decide_eq_true as_; obtain ⟨go32, co32, eo32, gb32, gl32, cl32, HG32⟩ := Kd.R_form HO_8.out (by omega); (first | cases eo32 | (injection eo32 with ea_ en_ ec_; (first | subst ea_ | (injection ea_ with ea_; subst ea_)); subst ec_; clear en_)); have GB32 := Aside0.mk gb32; have GG32 := Aside0.mk HG32; clear gb32 gl32 HG32; obtain ⟨hx32_0, hf32_0⟩ := Kd.R_celln false HO_8.out ((rd t276 x42_1) : Int) p32 q32; replace p32 := eq_true p32; replace q32 := eq_true q32; obtain ⟨hy44_, hz44_⟩ := Kd.R_celln false HO_8.out ((rd t276 x42_1) : Int) (of_decide_eq_true as_) (of_decide_eq_true as_); have HP44 := Kd.R_putg HO_8.out ((rd t276 x42_1) : Int) true) | ((with_reducible refine gate_store (t := 4) (p := 52) rfl ?_); refine store_event (t := 4) (p := 52) (v := ?vo_w45) (w1 := (w43.setCell ⟨go32, ((rd t276 x42_1) : Int).toNat, none⟩ (.bool true))) ?hg ?ho ?hn ?hr ?_; (case ho => rfl); (case hg => rfl); (case hn => rfl); (case hr => first | (go_simp; done) | (go_simp; rfl)); intro w45 hw; have hg : w43.grownBy w45 (some go32) := (by rw [hw]; exact HP44.2); have hp_ : Kd.R Kd.bool 4 w45 w.heap.size (fun _ => True) (.slice (some ⟨go32, 0, none⟩) x8_1.length co32) y281 := (by rw [hw, Ny281.out]; exact HP44.1); clear HP44; replace HO_7 := Aside0.mk (Kd.R_over' (v := (.slice (some ⟨go32, 0, none⟩) x8_1.length co32)) (rw_ HO_7.out) (Kd.R_typed HO_8.out) (by decide) hg); replace HO_40 := Aside0.mk (Kd.R_over' (v := (.slice (some ⟨go32, 0, none⟩) x8_1.length co32)) (rw_ HO_40.out) (Kd.R_typed HO_8.out) (by decide) hg); replace HO_270000 := Aside0.mk (Kd.V_afterv (v := (.slice (some ⟨go32, 0, none⟩) x8_1.length co32)) (v1 := (.slice (some ⟨go32, 0, none⟩) x8_1.length co32)) (ok := (fun k_ => some k_ ≠ (.slice (some ⟨go30, 0, none⟩) x7_1.length co30 : Value).ownBlock ∧ some k_ ≠ (.slice (some ad279) t276.length co24 : Value).ownBlock ∧ k_ ≠ gb263 ∧ k_ ≠ gb269)) (by (with_reducible repeat (first | apply Kd.V_alloc | apply Kd.V_drewN | apply Kd.V_drew)); exact Kd.V_mono HO_270000.out (fun _ hk => ⟨⟨hk.2, ⟨hk.1.2.1, ⟨hk.1.2.2.1, hk.1.2.2.2⟩⟩⟩, hk.1.1⟩)) hg (.inl rfl)); replace BK263 := Aside0.mk (blk_grown (g := gb263) (o := .cells #[.slice A0_0 l0_0.length c0_0, .int .i64 a0_1] 46 (0, 0)) (bw_ BK263.out) hg (Kd.R_ne HO_8.out BK263.out (by decide))); replace BK269 := Aside0.mk (blk_grown (g := gb269) (o := .cells #[.slice Ao14 t264.length co14, .int .i64 t267, .bool true] 104 (0, 0)) (bw_ BK269.out) hg (Kd.R_ne HO_8.out BK269.out (by decide))); replace HB := Aside0.mk ((by rw [hw]; exact below_set (HB.out) GB32.out : Below w.heap.size w w45)); replace HO_8 := Aside0.mk (hp_); clear hg hw hp_; have hnb46 := NB269_263.out; have hnc46 := NB263_269.out; obtain ⟨hcz47_0, hcz47_1, hcz47_2, hfz47_0, hfz47_1, hfz47_2⟩ := bc3_ BK269; have p282 : 0 ≤ ((rd t276 x42_1) : Int) := of_decide_eq_true as_; have q282 : (rd t276 x42_1) < (t264.length : Int) := of_decide_eq_true as_; obtain ⟨ad282, e282, hx282_0, hx282_1, hx282_2, hx282_3, hx282_4, hx282_5, hx282_6⟩ := at_T69 (Kd.V_reads' HO_270000.out).2.2 (rd t276 x42_1) p282 q282; cases e282; replace p282 := eq_true p282; replace q282 := eq_true q282) | ((with_reducible refine gate_callee (f := 25) rfl ?_); refine ge_ (some 65) rfl rfl Try.func25 (by kernel_rfl) rfl #[.agg #[.int .i64 ((rd_T69 t264 (rd t276 x42_1)).f4.f0), .string ((rd_T69 t264 (rd t276 x42_1)).f4.f1), .string ((rd_T69 t264 (rd t276 x42_1)).f4.f2)]] rfl (h := ?_); (with_reducible refine (change_Turn.calls ((rd_T69 t264 (rd t276 x42_1)).f4.f0) ((rd_T69 t264 (rd t276 x42_1)).f4.f1) ((rd_T69 t264 (rd t276 x42_1)).f4.f2) t283 t284 t285 _ A39.out).mono ?_); rintro e w48 ⟨rfl, hb⟩; refine ⟨_, rfl, ?_⟩; replace HO_7 := Aside0.mk (Kd.R_below (rw_ HO_7.out) hb); replace HO_8 := Aside0.mk (Kd.R_below (rw_ HO_8.out) hb); replace HO_40 := Aside0.mk (Kd.R_below (rw_ HO_40.out) hb); replace HO_270000 := Aside0.mk (Kd.V_below (vw_ HO_270000.out) hb); replace BK263 := bb_ BK263 hb; replace BK269 := bb_ BK269 hb; replace HB := bs_ HB hb; (try clear hb); (try clear hb2); (try clear hk); (try clear hi)) | ((with_reducible refine gate_dst (N := 66) rfl ?_); refine Kd.R_lit k24 _ 24 ?hg (N := 66) ?hd (xs := ([(⟨t283, t284, t285⟩ : S24)] : List (S24))) (inner := [.int .i64 t283, .string t284, .string t285]) (ok := fun _ => True) (okp := fun _ => True) ?hr ?hp (fun _ hk => hk) trivial (Below.refl _ _) (Nat.le_refl _) (by simp) ?_; (case hd => rfl); (case hg => rfl); (case hr => first | (go_simp; done) | (go_simp; rfl)); (case hp => exact (Reps.c3 (show Kd.M k24 _ _ _ (⟨t283, t284, t285⟩ : S24) [.int .i64 t283, .string t284, .string t285] from (k24_mkM _ _ _ (⟨t283, t284, t285⟩ : S24) )) (Reps.none _ _))); intro v287 w49 ho50 hb hg_ hnew_; clear hg_ hnew_; (first | rw [← Ny286.out] at ho50 | (simp only [Int.reduceToNat] at ho50; rw [← Ny286.out] at ho50)); have HO288 := Aside0.mk (Kd.R_lower ho50 (below_size (hb_ HB))); replace HO_7 := Aside0.mk (Kd.R_below (rw_ HO_7.out) hb); replace HO_8 := Aside0.mk (Kd.R_below (rw_ HO_8.out) hb); replace HO_40 := Aside0.mk (Kd.R_below (rw_ HO_40.out) hb); replace HO_270000 := Aside0.mk (Kd.V_elder' (vw_ HO_270000.out) (Kd.R_base ho50) hb); replace BK263 := bb_ BK263 hb; replace BK269 := bb_ BK269 hb; replace HB := bs_ HB hb; clear hb ho50; obtain ⟨Ao51, co51, eo51⟩ := Kd.R_slice HO288.out; subst eo51) | ((with_reducible refine gate_callee (f := 21) rfl ?_); refine ge_ (some 67) rfl rfl Try.func21 (by kernel_rfl) rfl #[.string x1_1, .slice Ao51 y286.length co51] rfl (h := ?_); (with_reducible refine (change_Do.calls k1 x1_1 _ _ y286 t289 t290 _ ?side1 ?side2 A40.out).mono ?_); (case side1 => repeat (first | exact (Kd.R_reads' HO288.out).2.2 | (with_reducible refine Kd.C_alloc ?_ _) | (with_reducible refine Kd.C_drewN ?_ _) | (with_reducible refine Kd.C_drew ?_))); (case side2 => exact (Kd.R_reads' HO288.out).2.1); rintro e w52 ⟨rfl, hb⟩; refine ⟨_, rfl, ?_⟩; replace HO_7 := Aside0.mk (Kd.R_below (rw_ HO_7.out) hb); replace HO_8 := Aside0.mk (Kd.R_below (rw_ HO_8.out) hb); replace HO_40 := Aside0.mk (Kd.R_below (rw_ HO_40.out) hb); replace HO_270000 := Aside0.mk (Kd.V_below (vw_ HO_270000.out) hb); replace HO288 := Aside0.mk (Kd.R_below (rw_ HO288.out) hb); replace BK263 := bb_ BK263 hb; replace BK269 := bb_ BK269 hb; replace HB := bs_ HB hb; (try clear hb); (try clear hb2); (try clear hk); (try clear hi)))
                 go_roundg k1
                 case measure => have := HK1.out; omega
                 case rel => exact ⟨(t289), (y280), (y281), (wrap64 (x42_1 + 1)), es_, es_, H', ⟨by have := HK1.out; omega⟩, ⟨rw_ HO_7.out⟩, ⟨rw_ HO_8.out⟩, ⟨rw_ HO_40.out⟩, ⟨by (with_reducible repeat (first | apply Kd.V_alloc | apply Kd.V_drewN | apply Kd.V_drew)); exact Kd.V_mono HO_270000.out (fun _ hk => ⟨hk.1.1.1, ⟨hk.1.2, ⟨hk.1.1.2.1, ⟨hk.1.1.2.2.1, hk.1.1.2.2.2⟩⟩⟩⟩)⟩, ⟨bw_ BK263.out⟩, ⟨bw_ BK269.out⟩, ⟨hb_ HB⟩⟩
                ·rw [if_neg c41] at H
                 have c41b0 : (t290 == 0) = false := beq_eq_false_iff_ne.mpr c41
                 have c41b1 : (t290 != 0) = true := bne_iff_ne.mpr c41
                 simp only [Option.some.injEq, Prod.mk.injEq] at H
                 obtain ⟨rfl, rfl⟩ := H
                 have p279 : 0 ≤ (x42_1 : Int) := of_decide_eq_true as_
                 have q279 : x42_1 < (t276.length : Int) := of_decide_eq_true as_
                 obtain ⟨ad279, e279, hx279_0⟩ := Kd.at_int (Kd.R_reads' HO_40.out).2.2 x42_1 p279 q279
                 cases e279
                 replace p279 := eq_true p279
                 replace q279 := eq_true q279
                 have p30 : 0 ≤ ((rd t276 x42_1) : Int) := of_decide_eq_true as_
                 have q30 : ((rd t276 x42_1) : Int) < ((x7_1.length : Int) : Int) := of_decide_eq_true as_
                 obtain ⟨go30, co30, eo30, gb30, gl30, cl30, HG30⟩ := Kd.R_form HO_7.out (by omega)
                 (first | cases eo30 | (injection eo30 with ea_ en_ ec_; (first | subst ea_ | (injection ea_ with ea_; subst ea_)); subst ec_; clear en_))
                 have GB30 := Aside0.mk gb30
                 have GG30 := Aside0.mk HG30
                 clear gb30 gl30 HG30
                 obtain ⟨hx30_0, hf30_0⟩ := Kd.R_celln (⟨#[]⟩ : ByteArray) HO_7.out ((rd t276 x42_1) : Int) p30 q30
                 replace p30 := eq_true p30
                 replace q30 := eq_true q30
                 have HP53 := Kd.R_putg HO_7.out ((rd t276 x42_1) : Int) x1_1
                 go_wp2_with (first | ((with_reducible refine gate_store (t := 9) (p := 51) rfl ?_); refine store_event (t := 9) (p := 51) (v := ?vo_w54) (w1 := (wr.setCell ⟨go30, ((rd t276 x42_1) : Int).toNat, none⟩ (.string x1_1))) ?hg ?ho ?hn ?hr ?_; (case ho => rfl); (case hg => rfl); (case hn => rfl); (case hr => first | (go_simp; done) | (go_simp; rfl)); intro w54 hw; have hg : wr.grownBy w54 (some go30) := (by rw [hw]; exact HP53.2); have hp_ : Kd.R Kd.string 9 w54 w.heap.size (fun _ => True) (.slice (some ⟨go30, 0, none⟩) x7_1.length co30) y280 := (by rw [hw, Ny280.out]; exact HP53.1); clear HP53; replace HO_8 := Aside0.mk (Kd.R_over' (v := (.slice (some ⟨go30, 0, none⟩) x7_1.length co30)) (rw_ HO_8.out) (Kd.R_typed HO_7.out) (by decide) hg); replace HO_40 := Aside0.mk (Kd.R_over' (v := (.slice (some ⟨go30, 0, none⟩) x7_1.length co30)) (rw_ HO_40.out) (Kd.R_typed HO_7.out) (by decide) hg); replace HO_270000 := Aside0.mk (Kd.V_afterv (v := (.slice (some ⟨go30, 0, none⟩) x7_1.length co30)) (v1 := (.slice (some ⟨go30, 0, none⟩) x7_1.length co30)) (ok := (fun k_ => some k_ ≠ (v274 : Value).ownBlock ∧ some k_ ≠ (.slice (some ad279) t276.length co24 : Value).ownBlock ∧ k_ ≠ gb263 ∧ k_ ≠ gb269)) (by (with_reducible repeat (first | apply Kd.V_alloc | apply Kd.V_drewN | apply Kd.V_drew)); exact Kd.V_mono HO_270000.out (fun _ hk => ⟨⟨hk.2.1, ⟨hk.2.2.1, ⟨hk.2.2.2.1, hk.2.2.2.2⟩⟩⟩, hk.1⟩)) hg (.inl rfl)); replace BK263 := Aside0.mk (blk_grown (g := gb263) (o := .cells #[.slice A0_0 l0_0.length c0_0, .int .i64 a0_1] 46 (0, 0)) (bw_ BK263.out) hg (Kd.R_ne HO_7.out BK263.out (by decide))); replace BK269 := Aside0.mk (blk_grown (g := gb269) (o := .cells #[.slice Ao14 t264.length co14, .int .i64 t267, .bool true] 104 (0, 0)) (bw_ BK269.out) hg (Kd.R_ne HO_7.out BK269.out (by decide))); replace HB := Aside0.mk ((by rw [hw]; exact below_set (HB.out) GB30.out : Below w.heap.size w w54)); replace HO_7 := Aside0.mk (hp_); clear hg hw hp_; have p32 : 0 ≤ ((rd t276 x42_1) : Int) := of_decide_eq_true as_; have q32 : ((rd t276 x42_1) : Int) < ((x8_1.length : Int) : Int) := of_decide_eq_true as_; obtain ⟨go32, co32, eo32, gb32, gl32, cl32, HG32⟩ := Kd.R_form HO_8.out (by omega); (first | cases eo32 | (injection eo32 with ea_ en_ ec_; (first | subst ea_ | (injection ea_ with ea_; subst ea_)); subst ec_; clear en_)); have GB32 := Aside0.mk gb32; have GG32 := Aside0.mk HG32; clear gb32 gl32 HG32; obtain ⟨hx32_0, hf32_0⟩ := Kd.R_celln false HO_8.out ((rd t276 x42_1) : Int) p32 q32; replace p32 := eq_true p32; replace q32 := eq_true q32; obtain ⟨hy55_, hz55_⟩ := Kd.R_celln false HO_8.out ((rd t276 x42_1) : Int) (of_decide_eq_true as_) (of_decide_eq_true as_); have HP55 := Kd.R_putg HO_8.out ((rd t276 x42_1) : Int) true) | ((with_reducible refine gate_store (t := 4) (p := 52) rfl ?_); refine store_event (t := 4) (p := 52) (v := ?vo_w56) (w1 := (w54.setCell ⟨go32, ((rd t276 x42_1) : Int).toNat, none⟩ (.bool true))) ?hg ?ho ?hn ?hr ?_; (case ho => rfl); (case hg => rfl); (case hn => rfl); (case hr => first | (go_simp; done) | (go_simp; rfl)); intro w56 hw; have hg : w54.grownBy w56 (some go32) := (by rw [hw]; exact HP55.2); have hp_ : Kd.R Kd.bool 4 w56 w.heap.size (fun _ => True) (.slice (some ⟨go32, 0, none⟩) x8_1.length co32) y281 := (by rw [hw, Ny281.out]; exact HP55.1); clear HP55; replace HO_7 := Aside0.mk (Kd.R_over' (v := (.slice (some ⟨go32, 0, none⟩) x8_1.length co32)) (rw_ HO_7.out) (Kd.R_typed HO_8.out) (by decide) hg); replace HO_40 := Aside0.mk (Kd.R_over' (v := (.slice (some ⟨go32, 0, none⟩) x8_1.length co32)) (rw_ HO_40.out) (Kd.R_typed HO_8.out) (by decide) hg); replace HO_270000 := Aside0.mk (Kd.V_afterv (v := (.slice (some ⟨go32, 0, none⟩) x8_1.length co32)) (v1 := (.slice (some ⟨go32, 0, none⟩) x8_1.length co32)) (ok := (fun k_ => some k_ ≠ (.slice (some ⟨go30, 0, none⟩) x7_1.length co30 : Value).ownBlock ∧ some k_ ≠ (.slice (some ad279) t276.length co24 : Value).ownBlock ∧ k_ ≠ gb263 ∧ k_ ≠ gb269)) (by (with_reducible repeat (first | apply Kd.V_alloc | apply Kd.V_drewN | apply Kd.V_drew)); exact Kd.V_mono HO_270000.out (fun _ hk => ⟨⟨hk.2, ⟨hk.1.2.1, ⟨hk.1.2.2.1, hk.1.2.2.2⟩⟩⟩, hk.1.1⟩)) hg (.inl rfl)); replace BK263 := Aside0.mk (blk_grown (g := gb263) (o := .cells #[.slice A0_0 l0_0.length c0_0, .int .i64 a0_1] 46 (0, 0)) (bw_ BK263.out) hg (Kd.R_ne HO_8.out BK263.out (by decide))); replace BK269 := Aside0.mk (blk_grown (g := gb269) (o := .cells #[.slice Ao14 t264.length co14, .int .i64 t267, .bool true] 104 (0, 0)) (bw_ BK269.out) hg (Kd.R_ne HO_8.out BK269.out (by decide))); replace HB := Aside0.mk ((by rw [hw]; exact below_set (HB.out) GB32.out : Below w.heap.size w w56)); replace HO_8 := Aside0.mk (hp_); clear hg hw hp_; have hnb57 := NB269_263.out; have hnc57 := NB263_269.out; obtain ⟨hcz58_0, hcz58_1, hcz58_2, hfz58_0, hfz58_1, hfz58_2⟩ := bc3_ BK269; have p282 : 0 ≤ ((rd t276 x42_1) : Int) := of_decide_eq_true as_; have q282 : (rd t276 x42_1) < (t264.length : Int) := of_decide_eq_true as_; obtain ⟨ad282, e282, hx282_0, hx282_1, hx282_2, hx282_3, hx282_4, hx282_5, hx282_6⟩ := at_T69 (Kd.V_reads' HO_270000.out).2.2 (rd t276 x42_1) p282 q282; cases e282; replace p282 := eq_true p282; replace q282 := eq_true q282) | ((with_reducible refine gate_callee (f := 25) rfl ?_); refine ge_ (some 65) rfl rfl Try.func25 (by kernel_rfl) rfl #[.agg #[.int .i64 ((rd_T69 t264 (rd t276 x42_1)).f4.f0), .string ((rd_T69 t264 (rd t276 x42_1)).f4.f1), .string ((rd_T69 t264 (rd t276 x42_1)).f4.f2)]] rfl (h := ?_); (with_reducible refine (change_Turn.calls ((rd_T69 t264 (rd t276 x42_1)).f4.f0) ((rd_T69 t264 (rd t276 x42_1)).f4.f1) ((rd_T69 t264 (rd t276 x42_1)).f4.f2) t283 t284 t285 _ A39.out).mono ?_); rintro e w59 ⟨rfl, hb⟩; refine ⟨_, rfl, ?_⟩; replace HO_7 := Aside0.mk (Kd.R_below (rw_ HO_7.out) hb); replace HO_8 := Aside0.mk (Kd.R_below (rw_ HO_8.out) hb); replace HO_40 := Aside0.mk (Kd.R_below (rw_ HO_40.out) hb); replace HO_270000 := Aside0.mk (Kd.V_below (vw_ HO_270000.out) hb); replace BK263 := bb_ BK263 hb; replace BK269 := bb_ BK269 hb; replace HB := bs_ HB hb; (try clear hb); (try clear hb2); (try clear hk); (try clear hi)) | ((with_reducible refine gate_dst (N := 66) rfl ?_); refine Kd.R_lit k24 _ 24 ?hg (N := 66) ?hd (xs := ([(⟨t283, t284, t285⟩ : S24)] : List (S24))) (inner := [.int .i64 t283, .string t284, .string t285]) (ok := fun _ => True) (okp := fun _ => True) ?hr ?hp (fun _ hk => hk) trivial (Below.refl _ _) (Nat.le_refl _) (by simp) ?_; (case hd => rfl); (case hg => rfl); (case hr => first | (go_simp; done) | (go_simp; rfl)); (case hp => exact (Reps.c3 (show Kd.M k24 _ _ _ (⟨t283, t284, t285⟩ : S24) [.int .i64 t283, .string t284, .string t285] from (k24_mkM _ _ _ (⟨t283, t284, t285⟩ : S24) )) (Reps.none _ _))); intro v287 w60 ho61 hb hg_ hnew_; clear hg_ hnew_; (first | rw [← Ny286.out] at ho61 | (simp only [Int.reduceToNat] at ho61; rw [← Ny286.out] at ho61)); have HO288 := Aside0.mk (Kd.R_lower ho61 (below_size (hb_ HB))); replace HO_7 := Aside0.mk (Kd.R_below (rw_ HO_7.out) hb); replace HO_8 := Aside0.mk (Kd.R_below (rw_ HO_8.out) hb); replace HO_40 := Aside0.mk (Kd.R_below (rw_ HO_40.out) hb); replace HO_270000 := Aside0.mk (Kd.V_elder' (vw_ HO_270000.out) (Kd.R_base ho61) hb); replace BK263 := bb_ BK263 hb; replace BK269 := bb_ BK269 hb; replace HB := bs_ HB hb; clear hb ho61; obtain ⟨Ao62, co62, eo62⟩ := Kd.R_slice HO288.out; subst eo62) | ((with_reducible refine gate_callee (f := 21) rfl ?_); refine ge_ (some 67) rfl rfl Try.func21 (by kernel_rfl) rfl #[.string x1_1, .slice Ao62 y286.length co62] rfl (h := ?_); (with_reducible refine (change_Do.calls k1 x1_1 _ _ y286 t289 t290 _ ?side1 ?side2 A40.out).mono ?_); (case side1 => repeat (first | exact (Kd.R_reads' HO288.out).2.2 | (with_reducible refine Kd.C_alloc ?_ _) | (with_reducible refine Kd.C_drewN ?_ _) | (with_reducible refine Kd.C_drew ?_))); (case side2 => exact (Kd.R_reads' HO288.out).2.1); rintro e w63 ⟨rfl, hb⟩; refine ⟨_, rfl, ?_⟩; replace HO_7 := Aside0.mk (Kd.R_below (rw_ HO_7.out) hb); replace HO_8 := Aside0.mk (Kd.R_below (rw_ HO_8.out) hb); replace HO_40 := Aside0.mk (Kd.R_below (rw_ HO_40.out) hb); replace HO_270000 := Aside0.mk (Kd.V_below (vw_ HO_270000.out) hb); replace HO288 := Aside0.mk (Kd.R_below (rw_ HO288.out) hb); replace BK263 := bb_ BK263 hb; replace BK269 := bb_ BK269 hb; replace HB := bs_ HB hb; (try clear hb); (try clear hb2); (try clear hk); (try clear hi)))
                 go_ret2
                 exact ⟨_, er_, by first | exact Kd.R_nil _ _ _ _ _ | exact Kd.N_nil _ _ _ _ _ | exact Kd.V_nil _ _ _ _ _ | exact Kd.Q_nil _ _ _ _ _ | exact Kd.S_nil _ _ _ _ _, hb_ HB⟩
               ·rw [if_neg c38] at H
                exact absurd H (by simp)
             ·rw [if_neg c31] at H
              exact absurd H (by simp)
            ·rw [if_neg c29] at H
             exact absurd H (by simp)
           ·rw [if_neg c28] at H
            exact absurd H (by simp)
          ·rw [if_neg c27] at H
           exact absurd H (by simp)
         ·rw [if_neg c26] at H
          exact absurd H (by simp)
        ·rw [if_neg c25] at H
         have c25b0 : decide (x42_1 < (t276.length : Int)) = false := decide_eq_false c25
         clear c25
         (first | rw [c25b0] | (simp only [i64_w, i32_w]; rw [c25b0]) | skip)
         have H' := Aside0.mk H
         clear H
         go_wp2
         go_meet
         case rel => exact ⟨_, (x7_1), (x8_1), H', ⟨by have := HK1.out; first | omega | exact Nat.le_refl _⟩, ⟨rw_ HO_7.out⟩, ⟨rw_ HO_8.out⟩, ⟨by (with_reducible repeat (first | apply Kd.V_alloc | apply Kd.V_drewN | apply Kd.V_drew)); exact Kd.V_mono HO_270000.out (fun _ hk => ⟨hk.1, ⟨hk.2.1, ⟨hk.2.2.2.1, hk.2.2.2.2⟩⟩⟩)⟩, ⟨bw_ BK263.out⟩, ⟨bw_ BK269.out⟩, ⟨hb_ HB⟩⟩
     case rest =>
      clear HC9
      try clear c4
      try clear c5
      try clear c5b0
      try clear c5b1
      try clear c6
      try clear c6b0
      try clear c6b1
      try clear c7
      try clear c7b0
      try clear c7b1
      try clear hcz11_0
      try clear hcz11_1
      try clear hcz16_0
      try clear hcz16_1
      try clear hcz16_2
      try clear hcz19_0
      try clear hcz19_1
      try clear hcz19_2
      try clear hcz22_0
      try clear hcz22_1
      try clear hcz22_2
      try clear hfz11_0
      try clear hfz11_1
      try clear hfz16_0
      try clear hfz16_1
      try clear hfz16_2
      try clear hfz19_0
      try clear hfz19_1
      try clear hfz19_2
      try clear hfz22_0
      try clear hfz22_1
      try clear hfz22_2
      obtain ⟨kq, x7_8, x8_8, HA, HJ8, HO_7, HO_8, HO_270000, BK263, BK269, HB⟩ := hcut
      cases kq with
      | zero => exact absurd HA.out (by simp [tree_Texts.j1])
      | succ kj8 =>
       have H := HA.out
       clear HA
       simp only [tree_Texts.j1] at H
       have H' := Aside0.mk H
       clear H
       have hnb64 := NB269_263.out
       have hnc64 := NB263_269.out
       obtain ⟨hcz65_0, hcz65_1, hcz65_2, hfz65_0, hfz65_1, hfz65_2⟩ := bc3_ BK269
       go_wp2
       go_loopg [80] kj8 (fun kq v80 w' => ∃ (x7_2 : List ByteArray) (x80_2 : Int), v80 = .int .i64 x80_2 ∧ Aside0 (tree_Texts.l1 kq x7_2 x8_8 t264 (t264.length : Int) x80_2 = some (r1, r2)) ∧ Aside0 (kq ≤ kj8) ∧ Aside0 (Kd.R Kd.string 9 w' w.heap.size (fun _ => True) v271 x7_2) ∧ Aside0 (Kd.R Kd.bool 4 w' w.heap.size (fun _ => True) v274 x8_8) ∧ Aside0 (Kd.V k69 69 w' w.heap.size (fun k_ => some k_ ≠ (v271 : Value).ownBlock ∧ some k_ ≠ (v274 : Value).ownBlock ∧ k_ ≠ gb263 ∧ k_ ≠ gb269) (.slice Ao14 t264.length co14) t264) ∧ Aside0 (Kd.V k69 69 w' w.heap.size (fun k_ => some k_ ≠ (v271 : Value).ownBlock ∧ some k_ ≠ (v274 : Value).ownBlock ∧ k_ ≠ gb263 ∧ k_ ≠ gb269) (.slice Ao14 t264.length co14) t264) ∧ Aside0 (w'.heap[gb263]? = some (.cells #[(.slice A0_0 l0_0.length c0_0), .int .i64 a0_1] 46 (0, 0))) ∧ Aside0 (w'.heap[gb269]? = some (.cells #[(.slice Ao14 t264.length co14), .int .i64 t267, .bool true] 104 (0, 0))) ∧ Aside0 (Below w.heap.size w w'))
       case atStart => exact ⟨(x7_8), (0), es_, H', ⟨Nat.le_refl _⟩, ⟨rw_ HO_7.out⟩, ⟨rw_ HO_8.out⟩, ⟨vw_ HO_270000.out⟩, ⟨vw_ HO_270000.out⟩, ⟨bw_ BK263.out⟩, ⟨bw_ BK269.out⟩, ⟨hb_ HB⟩⟩
       case round =>
        clear H'
        try clear c4
        try clear c5
        try clear c5b0
        try clear c5b1
        try clear c6
        try clear c6b0
        try clear c6b1
        try clear c7
        try clear c7b0
        try clear c7b1
        try clear hcz11_0
        try clear hcz11_1
        try clear hcz16_0
        try clear hcz16_1
        try clear hcz16_2
        try clear hcz19_0
        try clear hcz19_1
        try clear hcz19_2
        try clear hcz22_0
        try clear hcz22_1
        try clear hcz22_2
        try clear hcz65_0
        try clear hcz65_1
        try clear hcz65_2
        try clear hfz11_0
        try clear hfz11_1
        try clear hfz16_0
        try clear hfz16_1
        try clear hfz16_2
        try clear hfz19_0
        try clear hfz19_1
        try clear hfz19_2
        try clear hfz22_0
        try clear hfz22_1
        try clear hfz22_2
        try clear hfz65_0
        try clear hfz65_1
        try clear hfz65_2
        obtain ⟨x7_2, x80_2, rfl, HA, HK2, HO_7, HO_8, HO_78, HO_270000, BK263, BK269, HB⟩ := hrel
        cases gk with
        | zero => exact absurd HA.out (by simp [tree_Texts.l1])
        | succ k2 =>
         have H := HA.out
         clear HA
         simp only [tree_Texts.l1] at H
         by_cases c66 : x80_2 < (t264.length : Int)
         ·rw [if_pos c66] at H
          have c66b0 : decide (x80_2 < (t264.length : Int)) = true := decide_eq_true c66
          clear c66
          by_cases c67 : 0 ≤ x80_2
          ·rw [if_pos c67] at H
           have c67b0 : decide (0 ≤ x80_2) = true := decide_eq_true c67
           clear c67
           by_cases c68 : x80_2 < (t264.length : Int)
           ·rw [if_pos c68] at H
            have c68b0 : decide (x80_2 < (t264.length : Int)) = true := decide_eq_true c68
            clear c68
            by_cases c69 : x80_2 < (x8_8.length : Int)
            ·rw [if_pos c69] at H
             have c69b0 : decide (x80_2 < (x8_8.length : Int)) = true := decide_eq_true c69
             clear c69
             obtain ⟨bq70, hbq70⟩ : ∃ b_ : Bool, b_ = (rdOf false x8_8 x80_2) := ⟨_, rfl⟩
             replace H : (if bq70 = true then (tree_Texts.l1 k2 x7_2 x8_8 t264 (t264.length : Int) (wrap64 (x80_2 + 1))) else (if 0 ≤ ((rd_T69 t264 x80_2).f0) then (if ((rd_T69 t264 x80_2).f0) < (x7_2.length : Int) then ((change_Do.f k2 (rdOf ByteArray.empty x7_2 ((rd_T69 t264 x80_2).f0)) (([(⟨(rd_T69 t264 x80_2).f4.f0, (rd_T69 t264 x80_2).f4.f1, (rd_T69 t264 x80_2).f4.f2⟩ : S24)] : List (S24)))).bind fun bt298 => (if bt298.2 = 0 then (if x80_2 < (x7_2.length : Int) then (tree_Texts.l1 k2 (x7_2.set (x80_2 : Int).toNat bt298.1) x8_8 t264 (t264.length : Int) (wrap64 (x80_2 + 1))) else (none)) else (some (([] : List ByteArray), bt298.2)))) else (none)) else (none))) = some (r1, r2) := by rw [← hbq70] at H; exact H
             have Nbq70 := Aside0.mk hbq70
             clear hbq70
             by_cases c71 : bq70 = true
             ·subst c71
              have H1 : (tree_Texts.l1 k2 x7_2 x8_8 t264 (t264.length : Int) (wrap64 (x80_2 + 1))) = some (r1, r2) := by rw [if_pos rfl] at H; exact H
              clear H
              have H := H1
              clear H1
              have H' := Aside0.mk H
              clear H
              have p291 : 0 ≤ (x80_2 : Int) := of_decide_eq_true as_
              have q291 : x80_2 < (t264.length : Int) := of_decide_eq_true as_
              obtain ⟨ad291, e291, hx291_0, hx291_1, hx291_2, hx291_3, hx291_4, hx291_5, hx291_6⟩ := at_T69 (Kd.V_reads' HO_78.out).2.2 x80_2 p291 q291
              cases e291
              replace p291 := eq_true p291
              replace q291 := eq_true q291
              go_wp2_with (first | ((with_reducible refine gate_dst (N := 14) rfl ?_); refine be_ (N := 14) (cs := #[.int .i64 0, .int .i64 0, .int .i64 0, .int .i64 0, .int .i64 0, .string (⟨#[]⟩ : ByteArray), .string (⟨#[]⟩ : ByteArray)]) (t := 69) (h := ?_); intro gb292 hg w72 hbox hb; have BK292 := Aside0.mk (hbox); have GW292 := gw_ HB hg; have GE292 := gw_ HB hg; have NB263_292 := ne_ BK263 hg; have NB292_263 := en_ BK263 hg; have NB269_292 := ne_ BK269 hg; have NB292_269 := en_ BK269 hg; replace HO_7 := Aside0.mk (Kd.R_below (rw_ HO_7.out) hb); replace HO_8 := Aside0.mk (Kd.R_below (rw_ HO_8.out) hb); replace HO_78 := Aside0.mk (Kd.V_below (Kd.V_elderB (vw_ HO_78.out) gb292 (Nat.le_of_eq hg.symm)) hb); replace HO_270000 := Aside0.mk (Kd.V_below (Kd.V_elderB (vw_ HO_270000.out) gb292 (Nat.le_of_eq hg.symm)) hb); replace BK263 := bb_ BK263 hb; replace BK269 := bb_ BK269 hb; replace HB := bs_ HB hb; clear hb hbox hg; have hnb73 := NB292_263.out; have hnc73 := NB263_292.out; have hnb74 := NB292_269.out; have hnc74 := NB269_292.out; obtain ⟨hcz75_0, hcz75_1, hcz75_2, hcz75_3, hcz75_4, hcz75_5, hcz75_6, hfz75_0, hfz75_1, hfz75_2, hfz75_3, hfz75_4, hfz75_5, hfz75_6⟩ := bc7_ BK292; obtain ⟨Ao76, co76, eo76⟩ := Kd.R_slice HO_8.out; subst eo76; have p293 : 0 ≤ (x80_2 : Int) := of_decide_eq_true as_; have q293 : x80_2 < (x8_8.length : Int) := of_decide_eq_true as_; obtain ⟨ad293, e293, hx293_0⟩ := Kd.at_bool (Kd.R_reads' HO_8.out).2.2 x80_2 p293 q293; (try rw [← Nbq70.out] at hx293_0); cases e293; have hn293_0 : ad293.block ≠ gb292 := Kd.own_blk (Kd.R_ne HO_8.out BK292.out (by decide)); have hn293_1 : ad293.block ≠ gb292 := Kd.own_blk (Kd.R_ne HO_8.out BK292.out (by decide)); have hn293_2 : ad293.block ≠ gb292 := Kd.own_blk (Kd.R_ne HO_8.out BK292.out (by decide)); have hn293_3 : ad293.block ≠ gb292 := Kd.own_blk (Kd.R_ne HO_8.out BK292.out (by decide)); have hn293_4 : ad293.block ≠ gb292 := Kd.own_blk (Kd.R_ne HO_8.out BK292.out (by decide)); have hn293_5 : ad293.block ≠ gb292 := Kd.own_blk (Kd.R_ne HO_8.out BK292.out (by decide)); have hn293_6 : ad293.block ≠ gb292 := Kd.own_blk (Kd.R_ne HO_8.out BK292.out (by decide)); replace hx293_0 := (cell_far (p := ⟨gb292, 0, none⟩) (by first | (rw [add_block]; exact hn293_0) | (show (Addr.add _ _).block ≠ _; rw [add_block]; exact hn293_0) | exact hn293_0) (.int .i64 ((rd_T69 t264 x80_2).f0))).trans hx293_0; replace hx293_0 := (cell_far (p := ⟨gb292, 1, none⟩) (by first | (rw [add_block]; exact hn293_1) | (show (Addr.add _ _).block ≠ _; rw [add_block]; exact hn293_1) | exact hn293_1) (.int .i64 ((rd_T69 t264 x80_2).f1))).trans hx293_0; replace hx293_0 := (cell_far (p := ⟨gb292, 2, none⟩) (by first | (rw [add_block]; exact hn293_2) | (show (Addr.add _ _).block ≠ _; rw [add_block]; exact hn293_2) | exact hn293_2) (.int .i64 ((rd_T69 t264 x80_2).f2))).trans hx293_0; replace hx293_0 := (cell_far (p := ⟨gb292, 3, none⟩) (by first | (rw [add_block]; exact hn293_3) | (show (Addr.add _ _).block ≠ _; rw [add_block]; exact hn293_3) | exact hn293_3) (.int .i64 ((rd_T69 t264 x80_2).f3))).trans hx293_0; replace hx293_0 := (cell_far (p := ⟨gb292, 4, none⟩) (by first | (rw [add_block]; exact hn293_4) | (show (Addr.add _ _).block ≠ _; rw [add_block]; exact hn293_4) | exact hn293_4) (.int .i64 ((rd_T69 t264 x80_2).f4.f0))).trans hx293_0; replace hx293_0 := (cell_far (p := ⟨gb292, 5, none⟩) (by first | (rw [add_block]; exact hn293_5) | (show (Addr.add _ _).block ≠ _; rw [add_block]; exact hn293_5) | exact hn293_5) (.string ((rd_T69 t264 x80_2).f4.f1))).trans hx293_0; replace hx293_0 := (cell_far (p := ⟨gb292, 6, none⟩) (by first | (rw [add_block]; exact hn293_6) | (show (Addr.add _ _).block ≠ _; rw [add_block]; exact hn293_6) | exact hn293_6) (.string ((rd_T69 t264 x80_2).f4.f2))).trans hx293_0; clear hn293_0; clear hn293_1; clear hn293_2; clear hn293_3; clear hn293_4; clear hn293_5; clear hn293_6; replace p293 := eq_true p293; replace q293 := eq_true q293))
              go_roundg k2
              case measure => have := HJ8.out; have := HK2.out; omega
              case rel => exact ⟨(x7_2), (wrap64 (x80_2 + 1)), es_, H', ⟨by have := HJ8.out; have := HK2.out; omega⟩, ⟨by (with_reducible repeat (first | apply Kd.R_alloc | apply Kd.R_drewN | apply Kd.R_drew)); exact Kd.R_mono (rf_ (Kd.R_types HO_7.out BK292.out (by decide)) (fun _ hk => hk.2)) (fun _ hk => trivial)⟩, ⟨by (with_reducible repeat (first | apply Kd.R_alloc | apply Kd.R_drewN | apply Kd.R_drew)); exact Kd.R_mono (rf_ (Kd.R_types HO_8.out BK292.out (by decide)) (fun _ hk => hk.2)) (fun _ hk => trivial)⟩, ⟨by (with_reducible repeat (first | apply Kd.V_alloc | apply Kd.V_drewN | apply Kd.V_drew)); exact Kd.V_mono (vf_ (Kd.V_mono HO_78.out (fun k_ hk => (⟨hk, hk.2⟩ : _ ∧ k_ ≠ gb292))) (fun _ hk => hk.2)) (fun _ hk => ⟨hk.1.1.1, ⟨hk.1.1.2.1, ⟨hk.1.1.2.2.1, hk.1.1.2.2.2⟩⟩⟩)⟩, ⟨by (with_reducible repeat (first | apply Kd.V_alloc | apply Kd.V_drewN | apply Kd.V_drew)); exact Kd.V_mono (vf_ (Kd.V_mono HO_270000.out (fun k_ hk => (⟨hk, hk.2⟩ : _ ∧ k_ ≠ gb292))) (fun _ hk => hk.2)) (fun _ hk => ⟨hk.1.1.1, ⟨hk.1.1.2.1, ⟨hk.1.1.2.2.1, hk.1.1.2.2.2⟩⟩⟩)⟩, ⟨bp_ BK263.out⟩, ⟨bp_ BK269.out⟩, ⟨hb_ HB⟩⟩
             ·replace c71 := Bool.eq_false_iff.mpr c71
              subst c71
              have H1 : (if 0 ≤ ((rd_T69 t264 x80_2).f0) then (if ((rd_T69 t264 x80_2).f0) < (x7_2.length : Int) then ((change_Do.f k2 (rdOf ByteArray.empty x7_2 ((rd_T69 t264 x80_2).f0)) (([(⟨(rd_T69 t264 x80_2).f4.f0, (rd_T69 t264 x80_2).f4.f1, (rd_T69 t264 x80_2).f4.f2⟩ : S24)] : List (S24)))).bind fun bt298 => (if bt298.2 = 0 then (if x80_2 < (x7_2.length : Int) then (tree_Texts.l1 k2 (x7_2.set (x80_2 : Int).toNat bt298.1) x8_8 t264 (t264.length : Int) (wrap64 (x80_2 + 1))) else (none)) else (some (([] : List ByteArray), bt298.2)))) else (none)) else (none)) = some (r1, r2) := by rw [if_neg (show ¬ (false = true) by decide)] at H; exact H
              clear H
              have H := H1
              clear H1
              by_cases c77 : 0 ≤ ((rd_T69 t264 x80_2).f0)
              ·rw [if_pos c77] at H
               have c77b0 : decide (0 ≤ ((rd_T69 t264 x80_2).f0)) = true := decide_eq_true c77
               clear c77
               by_cases c78 : ((rd_T69 t264 x80_2).f0) < (x7_2.length : Int)
               ·rw [if_pos c78] at H
                have c78b0 : decide (((rd_T69 t264 x80_2).f0) < (x7_2.length : Int)) = true := decide_eq_true c78
                clear c78
                obtain ⟨y295, hy295⟩ : ∃ y_ : List (S24), y_ = (([(⟨(rd_T69 t264 x80_2).f4.f0, (rd_T69 t264 x80_2).f4.f1, (rd_T69 t264 x80_2).f4.f2⟩ : S24)] : List (S24))) := ⟨_, rfl⟩
                replace H : ((change_Do.f k2 (rdOf ByteArray.empty x7_2 ((rd_T69 t264 x80_2).f0)) y295).bind fun bt298 => (if bt298.2 = 0 then (if x80_2 < (x7_2.length : Int) then (tree_Texts.l1 k2 (x7_2.set (x80_2 : Int).toNat bt298.1) x8_8 t264 (t264.length : Int) (wrap64 (x80_2 + 1))) else (none)) else (some (([] : List ByteArray), bt298.2)))) = some (r1, r2) := th_ H hy295
                have Ny295 := Aside0.mk hy295
                clear hy295
                replace H := Option.bind_eq_some_iff.mp H
                obtain ⟨⟨t298, t299⟩, A790, H⟩ := H
                replace H : (if t299 = 0 then (if x80_2 < (x7_2.length : Int) then (tree_Texts.l1 k2 (x7_2.set (x80_2 : Int).toNat t298) x8_8 t264 (t264.length : Int) (wrap64 (x80_2 + 1))) else (none)) else (some (([] : List ByteArray), t299))) = some (r1, r2) := H
                have A79 := Aside0.mk A790
                clear A790
                by_cases c80 : t299 = 0
                ·rw [if_pos c80] at H
                 have c80b0 : (t299 == 0) = true := beq_iff_eq.mpr c80
                 have c80b1 : (t299 != 0) = false := bne_eq_false_iff_eq.mpr c80
                 clear c80
                 by_cases c81 : x80_2 < (x7_2.length : Int)
                 ·rw [if_pos c81] at H
                  have c81b0 : decide (x80_2 < (x7_2.length : Int)) = true := decide_eq_true c81
                  clear c81
                  obtain ⟨y300, hy300⟩ : ∃ y_ : List ByteArray, y_ = (x7_2.set (x80_2 : Int).toNat t298) := ⟨_, rfl⟩
                  replace H : (tree_Texts.l1 k2 y300 x8_8 t264 (t264.length : Int) (wrap64 (x80_2 + 1))) = some (r1, r2) := th_ H hy300
                  have Ny300 := Aside0.mk hy300
                  clear hy300
                  have H' := Aside0.mk H
                  clear H
                  have p291 : 0 ≤ (x80_2 : Int) := of_decide_eq_true as_
                  have q291 : x80_2 < (t264.length : Int) := of_decide_eq_true as_
                  obtain ⟨ad291, e291, hx291_0, hx291_1, hx291_2, hx291_3, hx291_4, hx291_5, hx291_6⟩ := at_T69 (Kd.V_reads' HO_78.out).2.2 x80_2 p291 q291
                  cases e291
                  replace p291 := eq_true p291
                  replace q291 := eq_true q291
                  try go_wp2_with (first | ((with_reducible refine gate_dst (N := 14) rfl ?_); refine be_ (N := 14) (cs := #[.int .i64 0, .int .i64 0, .int .i64 0, .int .i64 0, .int .i64 0, .string (⟨#[]⟩ : ByteArray), .string (⟨#[]⟩ : ByteArray)]) (t := 69) (h := ?_); intro gb292 hg w83 hbox hb; have BK292 := Aside0.mk (hbox); have GW292 := gw_ HB hg; have GE292 := gw_ HB hg; have NB263_292 := ne_ BK263 hg; have NB292_263 := en_ BK263 hg; have NB269_292 := ne_ BK269 hg; have NB292_269 := en_ BK269 hg; replace HO_7 := Aside0.mk (Kd.R_below (rw_ HO_7.out) hb); replace HO_8 := Aside0.mk (Kd.R_below (rw_ HO_8.out) hb); replace HO_78 := Aside0.mk (Kd.V_below (Kd.V_elderB (vw_ HO_78.out) gb292 (Nat.le_of_eq hg.symm)) hb); replace HO_270000 := Aside0.mk (Kd.V_below (Kd.V_elderB (vw_ HO_270000.out) gb292 (Nat.le_of_eq hg.symm)) hb); replace BK263 := bb_ BK263 hb; replace BK269 := bb_ BK269 hb; replace HB := bs_ HB hb; clear hb hbox hg; have hnb84 := NB292_263.out; have hnc84 := NB263_292.out; have hnb85 := NB292_269.out; have hnc85 := NB269_292.out; obtain ⟨hcz86_0, hcz86_1, hcz86_2, hcz86_3, hcz86_4, hcz86_5, hcz86_6, hfz86_0, hfz86_1, hfz86_2, hfz86_3, hfz86_4, hfz86_5, hfz86_6⟩ := bc7_ BK292; obtain ⟨Ao87, co87, eo87⟩ := Kd.R_slice HO_8.out; subst eo87; have p293 : 0 ≤ (x80_2 : Int) := of_decide_eq_true as_; have q293 : x80_2 < (x8_8.length : Int) := of_decide_eq_true as_; obtain ⟨ad293, e293, hx293_0⟩ := Kd.at_bool (Kd.R_reads' HO_8.out).2.2 x80_2 p293 q293; (try rw [← Nbq70.out] at hx293_0); cases e293; have hn293_0 : ad293.block ≠ gb292 := Kd.own_blk (Kd.R_ne HO_8.out BK292.out (by decide)); have hn293_1 : ad293.block ≠ gb292 := Kd.own_blk (Kd.R_ne HO_8.out BK292.out (by decide)); have hn293_2 : ad293.block ≠ gb292 := Kd.own_blk (Kd.R_ne HO_8.out BK292.out (by decide)); have hn293_3 : ad293.block ≠ gb292 := Kd.own_blk (Kd.R_ne HO_8.out BK292.out (by decide)); have hn293_4 : ad293.block ≠ gb292 := Kd.own_blk (Kd.R_ne HO_8.out BK292.out (by decide)); have hn293_5 : ad293.block ≠ gb292 := Kd.own_blk (Kd.R_ne HO_8.out BK292.out (by decide)); have hn293_6 : ad293.block ≠ gb292 := Kd.own_blk (Kd.R_ne HO_8.out BK292.out (by decide)); replace hx293_0 := (cell_far (p := ⟨gb292, 0, none⟩) (by first | (rw [add_block]; exact hn293_0) | (show (Addr.add _ _).block ≠ _; rw [add_block]; exact hn293_0) | exact hn293_0) (.int .i64 ((rd_T69 t264 x80_2).f0))).trans hx293_0; replace hx293_0 := (cell_far (p := ⟨gb292, 1, none⟩) (by first | (rw [add_block]; exact hn293_1) | (show (Addr.add _ _).block ≠ _; rw [add_block]; exact hn293_1) | exact hn293_1) (.int .i64 ((rd_T69 t264 x80_2).f1))).trans hx293_0; replace hx293_0 := (cell_far (p := ⟨gb292, 2, none⟩) (by first | (rw [add_block]; exact hn293_2) | (show (Addr.add _ _).block ≠ _; rw [add_block]; exact hn293_2) | exact hn293_2) (.int .i64 ((rd_T69 t264 x80_2).f2))).trans hx293_0; replace hx293_0 := (cell_far (p := ⟨gb292, 3, none⟩) (by first | (rw [add_block]; exact hn293_3) | (show (Addr.add _ _).block ≠ _; rw [add_block]; exact hn293_3) | exact hn293_3) (.int .i64 ((rd_T69 t264 x80_2).f3))).trans hx293_0; replace hx293_0 := (cell_far (p := ⟨gb292, 4, none⟩) (by first | (rw [add_block]; exact hn293_4) | (show (Addr.add _ _).block ≠ _; rw [add_block]; exact hn293_4) | exact hn293_4) (.int .i64 ((rd_T69 t264 x80_2).f4.f0))).trans hx293_0; replace hx293_0 := (cell_far (p := ⟨gb292, 5, none⟩) (by first | (rw [add_block]; exact hn293_5) | (show (Addr.add _ _).block ≠ _; rw [add_block]; exact hn293_5) | exact hn293_5) (.string ((rd_T69 t264 x80_2).f4.f1))).trans hx293_0; replace hx293_0 := (cell_far (p := ⟨gb292, 6, none⟩) (by first | (rw [add_block]; exact hn293_6) | (show (Addr.add _ _).block ≠ _; rw [add_block]; exact hn293_6) | exact hn293_6) (.string ((rd_T69 t264 x80_2).f4.f2))).trans hx293_0; clear hn293_0; clear hn293_1; clear hn293_2; clear hn293_3; clear hn293_4; clear hn293_5; clear hn293_6; replace p293 := eq_true p293; replace q293 := eq_true q293))
                  obtain ⟨w88, hW_⟩ : ∃ x, x = (((((((w83.setCell ⟨gb292, 0, none⟩ (.int .i64 ((rd_T69 t264 x80_2).f0))).setCell ⟨gb292, 1, none⟩ (.int .i64 ((rd_T69 t264 x80_2).f1))).setCell ⟨gb292, 2, none⟩ (.int .i64 ((rd_T69 t264 x80_2).f2))).setCell ⟨gb292, 3, none⟩ (.int .i64 ((rd_T69 t264 x80_2).f3))).setCell ⟨gb292, 4, none⟩ (.int .i64 ((rd_T69 t264 x80_2).f4.f0))).setCell ⟨gb292, 5, none⟩ (.string ((rd_T69 t264 x80_2).f4.f1))).setCell ⟨gb292, 6, none⟩ (.string ((rd_T69 t264 x80_2).f4.f2))) := ⟨_, rfl⟩
                  have n0_ : Aside0 (Kd.R Kd.string 9 w88 w.heap.size (fun _ => True) v271 x7_2) := ⟨by rw [hW_]; (with_reducible repeat (first | apply Kd.R_alloc | apply Kd.R_drewN | apply Kd.R_drew)); exact Kd.R_mono (rf_ (Kd.R_types HO_7.out BK292.out (by decide)) (fun _ hk => hk.2)) (fun _ hk => trivial)⟩
                  have n1_ : Aside0 (Kd.R Kd.bool 4 w88 w.heap.size (fun _ => True) (.slice (some ad293) x8_8.length co87) x8_8) := ⟨by rw [hW_]; (with_reducible repeat (first | apply Kd.R_alloc | apply Kd.R_drewN | apply Kd.R_drew)); exact Kd.R_mono (rf_ (Kd.R_types HO_8.out BK292.out (by decide)) (fun _ hk => hk.2)) (fun _ hk => trivial)⟩
                  have n2_ : Aside0 (Kd.V k69 69 w88 w.heap.size (fun k_ => some k_ ≠ (v271 : Value).ownBlock ∧ some k_ ≠ (.slice (some ad293) x8_8.length co87 : Value).ownBlock ∧ k_ ≠ gb263 ∧ k_ ≠ gb269 ∧ k_ ≠ gb292) (.slice (some ad291) t264.length co14) t264) := ⟨by rw [hW_]; (with_reducible repeat (first | apply Kd.V_alloc | apply Kd.V_drewN | apply Kd.V_drew)); exact Kd.V_mono (vf_ (Kd.V_mono HO_78.out (fun k_ hk => (⟨hk, hk.2⟩ : _ ∧ k_ ≠ gb292))) (fun _ hk => hk.2)) (fun _ hk => ⟨hk.1.1.1, ⟨hk.1.1.2.1, ⟨hk.1.1.2.2.1, ⟨hk.1.1.2.2.2, hk.1.2⟩⟩⟩⟩)⟩
                  have n3_ : Aside0 (Kd.V k69 69 w88 w.heap.size (fun k_ => some k_ ≠ (v271 : Value).ownBlock ∧ some k_ ≠ (.slice (some ad293) x8_8.length co87 : Value).ownBlock ∧ k_ ≠ gb263 ∧ k_ ≠ gb269 ∧ k_ ≠ gb292) (.slice (some ad291) t264.length co14) t264) := ⟨by rw [hW_]; (with_reducible repeat (first | apply Kd.V_alloc | apply Kd.V_drewN | apply Kd.V_drew)); exact Kd.V_mono (vf_ (Kd.V_mono HO_270000.out (fun k_ hk => (⟨hk, hk.2⟩ : _ ∧ k_ ≠ gb292))) (fun _ hk => hk.2)) (fun _ hk => ⟨hk.1.1.1, ⟨hk.1.1.2.1, ⟨hk.1.1.2.2.1, ⟨hk.1.1.2.2.2, hk.1.2⟩⟩⟩⟩)⟩
                  have n4_ : Aside0 (w88.heap[gb263]? = some (.cells #[.slice A0_0 l0_0.length c0_0, .int .i64 a0_1] 46 (0, 0))) := ⟨by rw [hW_]; exact bp_ BK263.out⟩
                  have n5_ : Aside0 (w88.heap[gb269]? = some (.cells #[.slice (some ad291) t264.length co14, .int .i64 t267, .bool true] 104 (0, 0))) := ⟨by rw [hW_]; exact bp_ BK269.out⟩
                  have n6_ : Aside0 (w88.heap[gb292]? = some (.cells #[.int .i64 ((rd_T69 t264 x80_2).f0), .int .i64 ((rd_T69 t264 x80_2).f1), .int .i64 ((rd_T69 t264 x80_2).f2), .int .i64 ((rd_T69 t264 x80_2).f3), .int .i64 ((rd_T69 t264 x80_2).f4.f0), .string ((rd_T69 t264 x80_2).f4.f1), .string ((rd_T69 t264 x80_2).f4.f2)] 69 (0, 0))) := ⟨by rw [hW_]; exact bp_ BK292.out⟩
                  have n7_ : Aside0 (Below w.heap.size w w88) := ⟨by rw [hW_]; exact hb_ HB⟩
                  (try clear HO_7)
                  (try clear HO_8)
                  (try clear HO_78)
                  (try clear HO_270000)
                  (try clear BK263)
                  (try clear BK269)
                  (try clear BK292)
                  (try clear HB)
                  rw [← hW_]; clear hW_
                  have HO_7 := n0_
                  have HO_8 := n1_
                  have HO_78 := n2_
                  have HO_270000 := n3_
                  have BK263 := n4_
                  have BK269 := n5_
                  have BK292 := n6_
                  have HB := n7_
                  clear n0_ n1_ n2_ n3_ n4_ n5_ n6_ n7_
                  have n0_ := Aside0.mk (Kd.R_drew HO_7.out)
                  have n1_ := Aside0.mk (Kd.R_drew HO_8.out)
                  have n2_ := Aside0.mk (Kd.V_drew HO_78.out)
                  have n3_ := Aside0.mk (Kd.V_drew HO_270000.out)
                  have n4_ := Aside0.mk (blk_drew BK263.out)
                  have n5_ := Aside0.mk (blk_drew BK269.out)
                  have n6_ := Aside0.mk (blk_drew BK292.out)
                  have n7_ := Aside0.mk (below_drew1 HB.out)
                  clear HO_7
                  clear HO_8
                  clear HO_78
                  clear HO_270000
                  clear BK263
                  clear BK269
                  clear BK292
                  clear HB
                  have HO_7 := n0_
                  have HO_8 := n1_
                  have HO_78 := n2_
                  have HO_270000 := n3_
                  have BK263 := n4_
                  have BK269 := n5_
                  have BK292 := n6_
                  have HB := n7_
                  clear n0_ n1_ n2_ n3_ n4_ n5_ n6_ n7_
                  obtain ⟨Ao90, co90, eo90⟩ := Kd.R_slice HO_7.out
                  (first | subst eo90 | (injection eo90 with f1_ f2_ f3_; have f4_ := f1_.symm; have f5_ := f3_.symm; clear f1_ f2_ f3_; subst f4_; subst f5_))
                  have p294 : 0 ≤ (((rd_T69 t264 x80_2).f0) : Int) := of_decide_eq_true as_
                  have q294 : ((rd_T69 t264 x80_2).f0) < (x7_2.length : Int) := of_decide_eq_true as_
                  obtain ⟨ad294, e294, hx294_0⟩ := Kd.at_string (Kd.R_reads' HO_7.out).2.2 ((rd_T69 t264 x80_2).f0) p294 q294
                  cases e294
                  replace p294 := eq_true p294
                  replace q294 := eq_true q294
                  refine start_ (n := 14) (S := fun w' => w'.cell? ⟨gb292, 0, none⟩ = some (.int .i64 ((rd_T69 t264 x80_2).f0)) ∧ w'.cell? ⟨gb292, 1, none⟩ = some (.int .i64 ((rd_T69 t264 x80_2).f1)) ∧ w'.cell? ⟨gb292, 2, none⟩ = some (.int .i64 ((rd_T69 t264 x80_2).f2)) ∧ w'.cell? ⟨gb292, 3, none⟩ = some (.int .i64 ((rd_T69 t264 x80_2).f3)) ∧ w'.cell? ⟨gb292, 4, none⟩ = some (.int .i64 ((rd_T69 t264 x80_2).f4.f0)) ∧ w'.cell? ⟨gb292, 5, none⟩ = some (.string ((rd_T69 t264 x80_2).f4.f1)) ∧ w'.cell? ⟨gb292, 6, none⟩ = some (.string ((rd_T69 t264 x80_2).f4.f2)) ∧ w'.cell? (ad294.add (((rd_T69 t264 x80_2).f0)).toNat) = some (.string (rdOf ByteArray.empty x7_2 ((rd_T69 t264 x80_2).f0)))) (ds := []) #[false, false, false, false, false, false, false, false, false, false, false, false, false, false] (by kernel_rfl) rfl rfl ⟨(blk_cell BK292.out 0).trans rfl, (blk_cell BK292.out 1).trans rfl, (blk_cell BK292.out 2).trans rfl, (blk_cell BK292.out 3).trans rfl, (blk_cell BK292.out 4).trans rfl, (blk_cell BK292.out 5).trans rfl, (blk_cell BK292.out 6).trans rfl, hx294_0⟩ (fun hHeld => ?_); refine with_tabW tree_Texts.tab20 tree_Texts.bits20 (fun HT_ HW_ => ?_)
                  generalize w88.drew = w89 at HO_7 HO_8 HO_78 HO_270000 BK263 BK269 BK292 HB hx294_0 hHeld ⊢
                  refine pp_ (i := 0) (N := some 90) #[true, false, false, false, false, false, false, false, false, false, false, false, false, false] rfl rfl (any_of HT_.out (by kernel_rfl)) (h := ?_)
                  refine pp_ (i := 1) (N := some 91) #[true, true, false, false, false, false, false, false, false, false, false, false, false, false] rfl rfl (any_of HT_.out (by kernel_rfl)) (h := ?_)
                  refine pp_ (i := 5) (N := some 95) #[true, true, false, false, false, true, false, false, false, false, false, false, false, false] rfl rfl (any_of HT_.out (by kernel_rfl)) (h := ?_)
                  refine take_ (i := 2) (N := some 92) (v := ?_) (a' := ?_) #[true, true, true, false, false, true, false, false, false, false, false, false, false, false] rfl rfl (take_ofW HT_.out HW_.out (by kernel_rfl)) (fun _ _ _ h => h) (Or.inl ⟨by rfl, ?_⟩) hHeld ?_ ?_
                  rotate_left
                  ·rintro w' ⟨s0, s1, s2, s3, s4, s5, s6, s7⟩
                   go_simp
                   with_reducible rfl
                  rotate_left
                  ·simp only [Act.put, List.setIfInBounds_toArray, List.set_cons_zero, List.set_cons_succ, i64_w, i32_w]
                   rfl
                  refine pp_ (i := 3) (N := some 93) #[true, true, true, true, false, true, false, false, false, false, false, false, false, false] rfl rfl (any_of HT_.out (by kernel_rfl)) (h := ?_)
                  refine take_ (i := 4) (N := some 94) (v := ?_) (a' := ?_) #[true, true, true, true, true, true, false, false, false, false, false, false, false, false] rfl rfl (take_ofW HT_.out HW_.out (by kernel_rfl)) (fun _ _ _ h => h) (Or.inl ⟨by rfl, ?_⟩) hHeld ?_ ?_
                  rotate_left
                  ·rintro w' ⟨s0, s1, s2, s3, s4, s5, s6, s7⟩
                   go_simp
                   with_reducible rfl
                  rotate_left
                  ·simp only [Act.put, List.setIfInBounds_toArray, List.set_cons_zero, List.set_cons_succ, i64_w, i32_w]
                   rfl
                  refine take_ (i := 6) (N := some 96) (v := ?_) (a' := ?_) #[true, true, true, true, true, true, true, false, false, false, false, false, false, false] rfl rfl (take_ofW HT_.out HW_.out (by kernel_rfl)) (fun _ _ _ h => h) (Or.inl ⟨by rfl, ?_⟩) hHeld ?_ ?_
                  rotate_left
                  ·rintro w' ⟨s0, s1, s2, s3, s4, s5, s6, s7⟩
                   go_simp
                   with_reducible rfl
                  rotate_left
                  ·simp only [Act.put, List.setIfInBounds_toArray, List.set_cons_zero, List.set_cons_succ, i64_w, i32_w]
                   rfl
                  refine one_ (i := 7) (N := some 97) #[true, true, true, true, true, true, true, true, false, false, false, false, false, false] rfl rfl (one_of HT_.out (by kernel_rfl)) (by decide) (fun K hK => ?_)
                  refine Kd.R_lit_step k24 _ 24 ?hg (N := 97) ?hd (xs := ([(⟨(rd_T69 t264 x80_2).f4.f0, (rd_T69 t264 x80_2).f4.f1, (rd_T69 t264 x80_2).f4.f2⟩ : S24)] : List (S24))) (inner := [.int .i64 ((rd_T69 t264 x80_2).f4.f0), .string ((rd_T69 t264 x80_2).f4.f1), .string ((rd_T69 t264 x80_2).f4.f2)]) (ok := fun _ => True) (okp := fun _ => True) ?hr ?hp (fun _ hk => hk) trivial (Below.refl _ _) (Nat.le_refl _) (by simp) ?_; (case hd => rfl); (case hg => rfl); (case hr => first | (go_simp; done) | (go_simp; rfl)); (case hp => exact (Reps.c3 (show Kd.M k24 _ _ _ (⟨(rd_T69 t264 x80_2).f4.f0, (rd_T69 t264 x80_2).f4.f1, (rd_T69 t264 x80_2).f4.f2⟩ : S24) [.int .i64 ((rd_T69 t264 x80_2).f4.f0), .string ((rd_T69 t264 x80_2).f4.f1), .string ((rd_T69 t264 x80_2).f4.f2)] from (k24_mkM _ _ _ (⟨(rd_T69 t264 x80_2).f4.f0, (rd_T69 t264 x80_2).f4.f1, (rd_T69 t264 x80_2).f4.f2⟩ : S24) )) (Reps.none _ _)))
                  intro v296 w91 ho92 hb hg_ hnew_
                  have HS7_ := (hb.cell (World.block_lt_of_cell? _ _ (hHeld.2.2.2.2.2.2.2))).trans (hHeld.2.2.2.2.2.2.2)
                  clear hg_ hnew_
                  (first | rw [← Ny295.out] at ho92 | (simp only [Int.reduceToNat] at ho92; rw [← Ny295.out] at ho92))
                  have n0_ := Aside0.mk (Kd.R_below (rw_ HO_7.out) hb)
                  have n1_ := Aside0.mk (Kd.R_below (rw_ HO_8.out) hb)
                  have n2_ := Aside0.mk (Kd.V_elder' (vw_ HO_78.out) (Kd.R_base ho92) hb)
                  have n3_ := Aside0.mk (Kd.V_elder' (vw_ HO_270000.out) (Kd.R_base ho92) hb)
                  have n4_ := Aside0.mk (Kd.R_lower ho92 (below_size (hb_ HB)))
                  have n5_ := bb_ BK263 hb
                  have n6_ := bb_ BK269 hb
                  have n7_ := bb_ BK292 hb
                  have n8_ := bs_ HB hb
                  clear HO_7
                  clear HO_8
                  clear HO_78
                  clear HO_270000
                  clear BK263
                  clear BK269
                  clear BK292
                  clear HB
                  have HO_7 := n0_
                  have HO_8 := n1_
                  have HO_78 := n2_
                  have HO_270000 := n3_
                  have HO297 := n4_
                  have BK263 := n5_
                  have BK269 := n6_
                  have BK292 := n7_
                  have HB := n8_
                  clear n0_ n1_ n2_ n3_ n4_ n5_ n6_ n7_ n8_
                  clear hb ho92
                  obtain ⟨Ao93, co93, eo93⟩ := Kd.R_slice HO297.out
                  (first | subst eo93 | (injection eo93 with f1_ f2_ f3_; have f4_ := f1_.symm; have f5_ := f3_.symm; clear f1_ f2_ f3_; subst f4_; subst f5_))
                  refine hK.out _ _ ⟨(blk_cell BK292.out 0).trans rfl, (blk_cell BK292.out 1).trans rfl, (blk_cell BK292.out 2).trans rfl, (blk_cell BK292.out 3).trans rfl, (blk_cell BK292.out 4).trans rfl, (blk_cell BK292.out 5).trans rfl, (blk_cell BK292.out 6).trans rfl, HS7_⟩ (fun hHeld => ?_)
                  clear hK K
                  refine norm_ (a' := ?_) ?_ ?_
                  rotate_left
                  ·show Act.put _ (some 97) _ = _
                   simp only [Act.put, List.setIfInBounds_toArray, List.set_cons_zero, List.set_cons_succ, i64_w, i32_w]
                   rfl
                  refine one_ (i := 8) (N := some 98) #[true, true, true, true, true, true, true, true, true, false, false, false, false, false] rfl rfl (one_of HT_.out (by kernel_rfl)) (by decide) (fun K hK => ?_)
                  refine goes_ Try.func21 (by kernel_rfl) rfl #[.string (rdOf ByteArray.empty x7_2 ((rd_T69 t264 x80_2).f0)), .slice Ao93 y295.length co93] (by rfl) rfl rfl (by (try simp only [List.map_toArray, List.map_cons, List.map_nil]); first | done | rfl | (simp only [List.length_drop, List.length_take]; rfl)) ?_
                  with_reducible refine (change_Do.calls k2 (rdOf ByteArray.empty x7_2 ((rd_T69 t264 x80_2).f0)) _ _ y295 t298 t299 _ ?side1 ?side2 A79.out).mono ?_
                  (case side1 => repeat (first | exact (Kd.R_reads' HO297.out).2.2 | (with_reducible refine Kd.C_alloc ?_ _) | (with_reducible refine Kd.C_drewN ?_ _) | (with_reducible refine Kd.C_drew ?_)))
                  (case side2 => exact (Kd.R_reads' HO297.out).2.1)
                  rintro e w94 ⟨rfl, hb⟩
                  have HS7_ := (hb.cell (World.block_lt_of_cell? _ _ (hHeld.2.2.2.2.2.2.2))).trans (hHeld.2.2.2.2.2.2.2)
                  refine ⟨_, rfl, ?_⟩
                  have n0_ := Aside0.mk (Kd.R_below (rw_ HO_7.out) hb)
                  have n1_ := Aside0.mk (Kd.R_below (rw_ HO_8.out) hb)
                  have n2_ := Aside0.mk (Kd.V_below (vw_ HO_78.out) hb)
                  have n3_ := Aside0.mk (Kd.V_below (vw_ HO_270000.out) hb)
                  have n4_ := Aside0.mk (Kd.R_below (rw_ HO297.out) hb)
                  have n5_ := bb_ BK263 hb
                  have n6_ := bb_ BK269 hb
                  have n7_ := bb_ BK292 hb
                  have n8_ := bs_ HB hb
                  clear HO_7
                  clear HO_8
                  clear HO_78
                  clear HO_270000
                  clear HO297
                  clear BK263
                  clear BK269
                  clear BK292
                  clear HB
                  have HO_7 := n0_
                  have HO_8 := n1_
                  have HO_78 := n2_
                  have HO_270000 := n3_
                  have HO297 := n4_
                  have BK263 := n5_
                  have BK269 := n6_
                  have BK292 := n7_
                  have HB := n8_
                  clear n0_ n1_ n2_ n3_ n4_ n5_ n6_ n7_ n8_
                  (try clear hb)
                  (try clear hb2)
                  (try clear hk)
                  (try clear hi)
                  refine hK.out _ _ ⟨(blk_cell BK292.out 0).trans rfl, (blk_cell BK292.out 1).trans rfl, (blk_cell BK292.out 2).trans rfl, (blk_cell BK292.out 3).trans rfl, (blk_cell BK292.out 4).trans rfl, (blk_cell BK292.out 5).trans rfl, (blk_cell BK292.out 6).trans rfl, HS7_⟩ (fun hHeld => ?_)
                  clear hK K
                  refine norm_ (a' := ?_) ?_ ?_
                  rotate_left
                  ·show Act.put _ (some 98) _ = _
                   simp only [Act.put, List.setIfInBounds_toArray, List.set_cons_zero, List.set_cons_succ, i64_w, i32_w]
                   rfl
                  refine pp_ (i := 9) (N := some 89) #[true, true, true, true, true, true, true, true, true, true, false, false, false, false] rfl rfl (any_of HT_.out (by kernel_rfl)) (h := ?_)
                  refine pp_ (i := 10) (N := some 99) #[true, true, true, true, true, true, true, true, true, true, true, false, false, false] rfl rfl (any_of HT_.out (by kernel_rfl)) (h := ?_)
                  refine pp_ (i := 11) (N := some 100) #[true, true, true, true, true, true, true, true, true, true, true, true, false, false] rfl rfl (any_of HT_.out (by kernel_rfl)) (h := ?_)
                  refine pp_ (i := 12) (N := some 15) #[true, true, true, true, true, true, true, true, true, true, true, true, true, false] rfl rfl (any_of HT_.out (by kernel_rfl)) (h := ?_)
                  refine pp_ (i := 13) (N := some 16) #[true, true, true, true, true, true, true, true, true, true, true, true, true, true] rfl rfl (any_of HT_.out (by kernel_rfl)) (h := ?_)
                  refine done_ (done_of HT_.out (by kernel_rfl)) ?_
                  have p82 : 0 ≤ (x80_2 : Int) := of_decide_eq_true as_
                  have q82 : (x80_2 : Int) < ((x7_2.length : Int) : Int) := of_decide_eq_true as_
                  obtain ⟨go82, co82, eo82, gb82, gl82, cl82, HG82⟩ := Kd.R_form HO_7.out (by omega)
                  (first | cases eo82 | (injection eo82 with ea_ en_ ec_; (first | subst ea_ | (injection ea_ with ea_; subst ea_)); subst ec_; clear en_))
                  have GB82 := Aside0.mk gb82
                  have GG82 := Aside0.mk HG82
                  clear gb82 gl82 HG82
                  (first | simp only [add_plain] at hx294_0 | skip)
                  obtain ⟨hx82_0, hf82_0⟩ := Kd.R_celln (⟨#[]⟩ : ByteArray) HO_7.out (x80_2 : Int) p82 q82
                  replace p82 := eq_true p82
                  replace q82 := eq_true q82
                  obtain ⟨hy95_, hz95_⟩ := Kd.R_celln (⟨#[]⟩ : ByteArray) HO_7.out (x80_2 : Int) (of_decide_eq_true as_) (of_decide_eq_true as_)
                  have HP95 := Kd.R_putg HO_7.out (x80_2 : Int) t298
                  try go_wp2_with (first | ((with_reducible refine gate_store (t := 9) (p := 107) rfl ?_); refine store_event (t := 9) (p := 107) (v := ?vo_w96) (w1 := (w94.setCell ⟨go82, (x80_2 : Int).toNat, none⟩ (.string t298))) ?hg ?ho ?hn ?hr ?_; (case ho => rfl); (case hg => rfl); (case hn => rfl); (case hr => first | (go_simp; done) | (go_simp; rfl)); intro w96 hw; have hg : w94.grownBy w96 (some go82) := (by rw [hw]; exact HP95.2); have hp_ : Kd.R Kd.string 9 w96 w.heap.size (fun _ => True) (.slice (some ⟨go82, 0, none⟩) x7_2.length co90) y300 := (by rw [hw, Ny300.out]; exact HP95.1); clear HP95; replace HO_8 := Aside0.mk (Kd.R_over' (v := (.slice (some ⟨go82, 0, none⟩) x7_2.length co90)) (rw_ HO_8.out) (Kd.R_typed HO_7.out) (by decide) hg); replace HO_78 := Aside0.mk (Kd.V_afterv (v := (.slice (some ⟨go82, 0, none⟩) x7_2.length co90)) (v1 := (.slice (some ⟨go82, 0, none⟩) x7_2.length co90)) (ok := (fun k_ => some k_ ≠ (.slice (some ad293) x8_8.length co87 : Value).ownBlock ∧ some k_ ≠ (.slice Ao93 y295.length co93 : Value).ownBlock ∧ k_ ≠ gb263 ∧ k_ ≠ gb269 ∧ k_ ≠ gb292)) (by (with_reducible repeat (first | apply Kd.V_alloc | apply Kd.V_drewN | apply Kd.V_drew)); exact Kd.V_mono HO_78.out (fun _ hk => ⟨⟨hk.1.2.1, ⟨hk.2, ⟨hk.1.2.2.1, ⟨hk.1.2.2.2.1, hk.1.2.2.2.2⟩⟩⟩⟩, hk.1.1⟩)) hg (.inl rfl)); replace HO_270000 := Aside0.mk (Kd.V_afterv (v := (.slice (some ⟨go82, 0, none⟩) x7_2.length co90)) (v1 := (.slice (some ⟨go82, 0, none⟩) x7_2.length co90)) (ok := (fun k_ => some k_ ≠ (.slice (some ad293) x8_8.length co87 : Value).ownBlock ∧ some k_ ≠ (.slice Ao93 y295.length co93 : Value).ownBlock ∧ k_ ≠ gb263 ∧ k_ ≠ gb269 ∧ k_ ≠ gb292)) (by (with_reducible repeat (first | apply Kd.V_alloc | apply Kd.V_drewN | apply Kd.V_drew)); exact Kd.V_mono HO_270000.out (fun _ hk => ⟨⟨hk.1.2.1, ⟨hk.2, ⟨hk.1.2.2.1, ⟨hk.1.2.2.2.1, hk.1.2.2.2.2⟩⟩⟩⟩, hk.1.1⟩)) hg (.inl rfl)); replace BK263 := Aside0.mk (blk_grown (g := gb263) (o := .cells #[.slice A0_0 l0_0.length c0_0, .int .i64 a0_1] 46 (0, 0)) (bw_ BK263.out) hg (Kd.R_ne HO_7.out BK263.out (by decide))); replace BK269 := Aside0.mk (blk_grown (g := gb269) (o := .cells #[.slice (some ad291) t264.length co14, .int .i64 t267, .bool true] 104 (0, 0)) (bw_ BK269.out) hg (Kd.R_ne HO_7.out BK269.out (by decide))); replace BK292 := Aside0.mk (blk_grown (g := gb292) (o := .cells #[.int .i64 ((rd_T69 t264 x80_2).f0), .int .i64 ((rd_T69 t264 x80_2).f1), .int .i64 ((rd_T69 t264 x80_2).f2), .int .i64 ((rd_T69 t264 x80_2).f3), .int .i64 ((rd_T69 t264 x80_2).f4.f0), .string ((rd_T69 t264 x80_2).f4.f1), .string ((rd_T69 t264 x80_2).f4.f2)] 69 (0, 0)) (bw_ BK292.out) hg (Kd.R_ne HO_7.out BK292.out (by decide))); replace HO297 := Aside0.mk (Kd.R_over' (v := (.slice (some ⟨go82, 0, none⟩) x7_2.length co90)) (rw_ HO297.out) (Kd.R_typed HO_7.out) (by decide) hg); replace HB := Aside0.mk ((by rw [hw]; exact below_set (HB.out) GB82.out : Below w.heap.size w w96)); replace HO_7 := Aside0.mk (hp_); clear hg hw hp_))
                  go_roundg k2
                  case measure => have := HJ8.out; have := HK2.out; omega
                  case rel => exact ⟨(y300), (wrap64 (x80_2 + 1)), es_, H', ⟨by have := HJ8.out; have := HK2.out; omega⟩, ⟨rw_ HO_7.out⟩, ⟨rw_ HO_8.out⟩, ⟨by (with_reducible repeat (first | apply Kd.V_alloc | apply Kd.V_drewN | apply Kd.V_drew)); exact Kd.V_mono HO_78.out (fun _ hk => ⟨hk.2, ⟨hk.1.1, ⟨hk.1.2.2.1, hk.1.2.2.2.1⟩⟩⟩)⟩, ⟨by (with_reducible repeat (first | apply Kd.V_alloc | apply Kd.V_drewN | apply Kd.V_drew)); exact Kd.V_mono HO_270000.out (fun _ hk => ⟨hk.2, ⟨hk.1.1, ⟨hk.1.2.2.1, hk.1.2.2.2.1⟩⟩⟩)⟩, ⟨bw_ BK263.out⟩, ⟨bw_ BK269.out⟩, ⟨hb_ HB⟩⟩
                 ·rw [if_neg c81] at H
                  exact absurd H (by simp)
                ·rw [if_neg c80] at H
                 have c80b0 : (t299 == 0) = false := beq_eq_false_iff_ne.mpr c80
                 have c80b1 : (t299 != 0) = true := bne_iff_ne.mpr c80
                 simp only [Option.some.injEq, Prod.mk.injEq] at H
                 obtain ⟨rfl, rfl⟩ := H
                 have p291 : 0 ≤ (x80_2 : Int) := of_decide_eq_true as_
                 have q291 : x80_2 < (t264.length : Int) := of_decide_eq_true as_
                 obtain ⟨ad291, e291, hx291_0, hx291_1, hx291_2, hx291_3, hx291_4, hx291_5, hx291_6⟩ := at_T69 (Kd.V_reads' HO_78.out).2.2 x80_2 p291 q291
                 cases e291
                 replace p291 := eq_true p291
                 replace q291 := eq_true q291
                 try go_wp2_with (first | ((with_reducible refine gate_dst (N := 14) rfl ?_); refine be_ (N := 14) (cs := #[.int .i64 0, .int .i64 0, .int .i64 0, .int .i64 0, .int .i64 0, .string (⟨#[]⟩ : ByteArray), .string (⟨#[]⟩ : ByteArray)]) (t := 69) (h := ?_); intro gb292 hg w97 hbox hb; have BK292 := Aside0.mk (hbox); have GW292 := gw_ HB hg; have GE292 := gw_ HB hg; have NB263_292 := ne_ BK263 hg; have NB292_263 := en_ BK263 hg; have NB269_292 := ne_ BK269 hg; have NB292_269 := en_ BK269 hg; replace HO_7 := Aside0.mk (Kd.R_below (rw_ HO_7.out) hb); replace HO_8 := Aside0.mk (Kd.R_below (rw_ HO_8.out) hb); replace HO_78 := Aside0.mk (Kd.V_below (Kd.V_elderB (vw_ HO_78.out) gb292 (Nat.le_of_eq hg.symm)) hb); replace HO_270000 := Aside0.mk (Kd.V_below (Kd.V_elderB (vw_ HO_270000.out) gb292 (Nat.le_of_eq hg.symm)) hb); replace BK263 := bb_ BK263 hb; replace BK269 := bb_ BK269 hb; replace HB := bs_ HB hb; clear hb hbox hg; have hnb98 := NB292_263.out; have hnc98 := NB263_292.out; have hnb99 := NB292_269.out; have hnc99 := NB269_292.out; obtain ⟨hcz100_0, hcz100_1, hcz100_2, hcz100_3, hcz100_4, hcz100_5, hcz100_6, hfz100_0, hfz100_1, hfz100_2, hfz100_3, hfz100_4, hfz100_5, hfz100_6⟩ := bc7_ BK292; obtain ⟨Ao101, co101, eo101⟩ := Kd.R_slice HO_8.out; subst eo101; have p293 : 0 ≤ (x80_2 : Int) := of_decide_eq_true as_; have q293 : x80_2 < (x8_8.length : Int) := of_decide_eq_true as_; obtain ⟨ad293, e293, hx293_0⟩ := Kd.at_bool (Kd.R_reads' HO_8.out).2.2 x80_2 p293 q293; (try rw [← Nbq70.out] at hx293_0); cases e293; have hn293_0 : ad293.block ≠ gb292 := Kd.own_blk (Kd.R_ne HO_8.out BK292.out (by decide)); have hn293_1 : ad293.block ≠ gb292 := Kd.own_blk (Kd.R_ne HO_8.out BK292.out (by decide)); have hn293_2 : ad293.block ≠ gb292 := Kd.own_blk (Kd.R_ne HO_8.out BK292.out (by decide)); have hn293_3 : ad293.block ≠ gb292 := Kd.own_blk (Kd.R_ne HO_8.out BK292.out (by decide)); have hn293_4 : ad293.block ≠ gb292 := Kd.own_blk (Kd.R_ne HO_8.out BK292.out (by decide)); have hn293_5 : ad293.block ≠ gb292 := Kd.own_blk (Kd.R_ne HO_8.out BK292.out (by decide)); have hn293_6 : ad293.block ≠ gb292 := Kd.own_blk (Kd.R_ne HO_8.out BK292.out (by decide)); replace hx293_0 := (cell_far (p := ⟨gb292, 0, none⟩) (by first | (rw [add_block]; exact hn293_0) | (show (Addr.add _ _).block ≠ _; rw [add_block]; exact hn293_0) | exact hn293_0) (.int .i64 ((rd_T69 t264 x80_2).f0))).trans hx293_0; replace hx293_0 := (cell_far (p := ⟨gb292, 1, none⟩) (by first | (rw [add_block]; exact hn293_1) | (show (Addr.add _ _).block ≠ _; rw [add_block]; exact hn293_1) | exact hn293_1) (.int .i64 ((rd_T69 t264 x80_2).f1))).trans hx293_0; replace hx293_0 := (cell_far (p := ⟨gb292, 2, none⟩) (by first | (rw [add_block]; exact hn293_2) | (show (Addr.add _ _).block ≠ _; rw [add_block]; exact hn293_2) | exact hn293_2) (.int .i64 ((rd_T69 t264 x80_2).f2))).trans hx293_0; replace hx293_0 := (cell_far (p := ⟨gb292, 3, none⟩) (by first | (rw [add_block]; exact hn293_3) | (show (Addr.add _ _).block ≠ _; rw [add_block]; exact hn293_3) | exact hn293_3) (.int .i64 ((rd_T69 t264 x80_2).f3))).trans hx293_0; replace hx293_0 := (cell_far (p := ⟨gb292, 4, none⟩) (by first | (rw [add_block]; exact hn293_4) | (show (Addr.add _ _).block ≠ _; rw [add_block]; exact hn293_4) | exact hn293_4) (.int .i64 ((rd_T69 t264 x80_2).f4.f0))).trans hx293_0; replace hx293_0 := (cell_far (p := ⟨gb292, 5, none⟩) (by first | (rw [add_block]; exact hn293_5) | (show (Addr.add _ _).block ≠ _; rw [add_block]; exact hn293_5) | exact hn293_5) (.string ((rd_T69 t264 x80_2).f4.f1))).trans hx293_0; replace hx293_0 := (cell_far (p := ⟨gb292, 6, none⟩) (by first | (rw [add_block]; exact hn293_6) | (show (Addr.add _ _).block ≠ _; rw [add_block]; exact hn293_6) | exact hn293_6) (.string ((rd_T69 t264 x80_2).f4.f2))).trans hx293_0; clear hn293_0; clear hn293_1; clear hn293_2; clear hn293_3; clear hn293_4; clear hn293_5; clear hn293_6; replace p293 := eq_true p293; replace q293 := eq_true q293))
                 obtain ⟨w102, hW_⟩ : ∃ x, x = (((((((w97.setCell ⟨gb292, 0, none⟩ (.int .i64 ((rd_T69 t264 x80_2).f0))).setCell ⟨gb292, 1, none⟩ (.int .i64 ((rd_T69 t264 x80_2).f1))).setCell ⟨gb292, 2, none⟩ (.int .i64 ((rd_T69 t264 x80_2).f2))).setCell ⟨gb292, 3, none⟩ (.int .i64 ((rd_T69 t264 x80_2).f3))).setCell ⟨gb292, 4, none⟩ (.int .i64 ((rd_T69 t264 x80_2).f4.f0))).setCell ⟨gb292, 5, none⟩ (.string ((rd_T69 t264 x80_2).f4.f1))).setCell ⟨gb292, 6, none⟩ (.string ((rd_T69 t264 x80_2).f4.f2))) := ⟨_, rfl⟩
                 have n0_ : Aside0 (Kd.R Kd.string 9 w102 w.heap.size (fun _ => True) v271 x7_2) := ⟨by rw [hW_]; (with_reducible repeat (first | apply Kd.R_alloc | apply Kd.R_drewN | apply Kd.R_drew)); exact Kd.R_mono (rf_ (Kd.R_types HO_7.out BK292.out (by decide)) (fun _ hk => hk.2)) (fun _ hk => trivial)⟩
                 have n1_ : Aside0 (Kd.R Kd.bool 4 w102 w.heap.size (fun _ => True) (.slice (some ad293) x8_8.length co101) x8_8) := ⟨by rw [hW_]; (with_reducible repeat (first | apply Kd.R_alloc | apply Kd.R_drewN | apply Kd.R_drew)); exact Kd.R_mono (rf_ (Kd.R_types HO_8.out BK292.out (by decide)) (fun _ hk => hk.2)) (fun _ hk => trivial)⟩
                 have n2_ : Aside0 (Kd.V k69 69 w102 w.heap.size (fun k_ => some k_ ≠ (v271 : Value).ownBlock ∧ some k_ ≠ (.slice (some ad293) x8_8.length co101 : Value).ownBlock ∧ k_ ≠ gb263 ∧ k_ ≠ gb269 ∧ k_ ≠ gb292) (.slice (some ad291) t264.length co14) t264) := ⟨by rw [hW_]; (with_reducible repeat (first | apply Kd.V_alloc | apply Kd.V_drewN | apply Kd.V_drew)); exact Kd.V_mono (vf_ (Kd.V_mono HO_78.out (fun k_ hk => (⟨hk, hk.2⟩ : _ ∧ k_ ≠ gb292))) (fun _ hk => hk.2)) (fun _ hk => ⟨hk.1.1.1, ⟨hk.1.1.2.1, ⟨hk.1.1.2.2.1, ⟨hk.1.1.2.2.2, hk.1.2⟩⟩⟩⟩)⟩
                 have n3_ : Aside0 (Kd.V k69 69 w102 w.heap.size (fun k_ => some k_ ≠ (v271 : Value).ownBlock ∧ some k_ ≠ (.slice (some ad293) x8_8.length co101 : Value).ownBlock ∧ k_ ≠ gb263 ∧ k_ ≠ gb269 ∧ k_ ≠ gb292) (.slice (some ad291) t264.length co14) t264) := ⟨by rw [hW_]; (with_reducible repeat (first | apply Kd.V_alloc | apply Kd.V_drewN | apply Kd.V_drew)); exact Kd.V_mono (vf_ (Kd.V_mono HO_270000.out (fun k_ hk => (⟨hk, hk.2⟩ : _ ∧ k_ ≠ gb292))) (fun _ hk => hk.2)) (fun _ hk => ⟨hk.1.1.1, ⟨hk.1.1.2.1, ⟨hk.1.1.2.2.1, ⟨hk.1.1.2.2.2, hk.1.2⟩⟩⟩⟩)⟩
                 have n4_ : Aside0 (w102.heap[gb263]? = some (.cells #[.slice A0_0 l0_0.length c0_0, .int .i64 a0_1] 46 (0, 0))) := ⟨by rw [hW_]; exact bp_ BK263.out⟩
                 have n5_ : Aside0 (w102.heap[gb269]? = some (.cells #[.slice (some ad291) t264.length co14, .int .i64 t267, .bool true] 104 (0, 0))) := ⟨by rw [hW_]; exact bp_ BK269.out⟩
                 have n6_ : Aside0 (w102.heap[gb292]? = some (.cells #[.int .i64 ((rd_T69 t264 x80_2).f0), .int .i64 ((rd_T69 t264 x80_2).f1), .int .i64 ((rd_T69 t264 x80_2).f2), .int .i64 ((rd_T69 t264 x80_2).f3), .int .i64 ((rd_T69 t264 x80_2).f4.f0), .string ((rd_T69 t264 x80_2).f4.f1), .string ((rd_T69 t264 x80_2).f4.f2)] 69 (0, 0))) := ⟨by rw [hW_]; exact bp_ BK292.out⟩
                 have n7_ : Aside0 (Below w.heap.size w w102) := ⟨by rw [hW_]; exact hb_ HB⟩
                 (try clear HO_7)
                 (try clear HO_8)
                 (try clear HO_78)
                 (try clear HO_270000)
                 (try clear BK263)
                 (try clear BK269)
                 (try clear BK292)
                 (try clear HB)
                 rw [← hW_]; clear hW_
                 have HO_7 := n0_
                 have HO_8 := n1_
                 have HO_78 := n2_
                 have HO_270000 := n3_
                 have BK263 := n4_
                 have BK269 := n5_
                 have BK292 := n6_
                 have HB := n7_
                 clear n0_ n1_ n2_ n3_ n4_ n5_ n6_ n7_
                 have n0_ := Aside0.mk (Kd.R_drew HO_7.out)
                 have n1_ := Aside0.mk (Kd.R_drew HO_8.out)
                 have n2_ := Aside0.mk (Kd.V_drew HO_78.out)
                 have n3_ := Aside0.mk (Kd.V_drew HO_270000.out)
                 have n4_ := Aside0.mk (blk_drew BK263.out)
                 have n5_ := Aside0.mk (blk_drew BK269.out)
                 have n6_ := Aside0.mk (blk_drew BK292.out)
                 have n7_ := Aside0.mk (below_drew1 HB.out)
                 clear HO_7
                 clear HO_8
                 clear HO_78
                 clear HO_270000
                 clear BK263
                 clear BK269
                 clear BK292
                 clear HB
                 have HO_7 := n0_
                 have HO_8 := n1_
                 have HO_78 := n2_
                 have HO_270000 := n3_
                 have BK263 := n4_
                 have BK269 := n5_
                 have BK292 := n6_
                 have HB := n7_
                 clear n0_ n1_ n2_ n3_ n4_ n5_ n6_ n7_
                 obtain ⟨Ao104, co104, eo104⟩ := Kd.R_slice HO_7.out
                 (first | subst eo104 | (injection eo104 with f1_ f2_ f3_; have f4_ := f1_.symm; have f5_ := f3_.symm; clear f1_ f2_ f3_; subst f4_; subst f5_))
                 have p294 : 0 ≤ (((rd_T69 t264 x80_2).f0) : Int) := of_decide_eq_true as_
                 have q294 : ((rd_T69 t264 x80_2).f0) < (x7_2.length : Int) := of_decide_eq_true as_
                 obtain ⟨ad294, e294, hx294_0⟩ := Kd.at_string (Kd.R_reads' HO_7.out).2.2 ((rd_T69 t264 x80_2).f0) p294 q294
                 cases e294
                 replace p294 := eq_true p294
                 replace q294 := eq_true q294
                 refine start_ (n := 14) (S := fun w' => w'.cell? ⟨gb292, 0, none⟩ = some (.int .i64 ((rd_T69 t264 x80_2).f0)) ∧ w'.cell? ⟨gb292, 1, none⟩ = some (.int .i64 ((rd_T69 t264 x80_2).f1)) ∧ w'.cell? ⟨gb292, 2, none⟩ = some (.int .i64 ((rd_T69 t264 x80_2).f2)) ∧ w'.cell? ⟨gb292, 3, none⟩ = some (.int .i64 ((rd_T69 t264 x80_2).f3)) ∧ w'.cell? ⟨gb292, 4, none⟩ = some (.int .i64 ((rd_T69 t264 x80_2).f4.f0)) ∧ w'.cell? ⟨gb292, 5, none⟩ = some (.string ((rd_T69 t264 x80_2).f4.f1)) ∧ w'.cell? ⟨gb292, 6, none⟩ = some (.string ((rd_T69 t264 x80_2).f4.f2)) ∧ w'.cell? (ad294.add (((rd_T69 t264 x80_2).f0)).toNat) = some (.string (rdOf ByteArray.empty x7_2 ((rd_T69 t264 x80_2).f0)))) (ds := []) #[false, false, false, false, false, false, false, false, false, false, false, false, false, false] (by kernel_rfl) rfl rfl ⟨(blk_cell BK292.out 0).trans rfl, (blk_cell BK292.out 1).trans rfl, (blk_cell BK292.out 2).trans rfl, (blk_cell BK292.out 3).trans rfl, (blk_cell BK292.out 4).trans rfl, (blk_cell BK292.out 5).trans rfl, (blk_cell BK292.out 6).trans rfl, hx294_0⟩ (fun hHeld => ?_); refine with_tabW tree_Texts.tab20 tree_Texts.bits20 (fun HT_ HW_ => ?_)
                 generalize w102.drew = w103 at HO_7 HO_8 HO_78 HO_270000 BK263 BK269 BK292 HB hx294_0 hHeld ⊢
                 refine pp_ (i := 0) (N := some 90) #[true, false, false, false, false, false, false, false, false, false, false, false, false, false] rfl rfl (any_of HT_.out (by kernel_rfl)) (h := ?_)
                 refine pp_ (i := 1) (N := some 91) #[true, true, false, false, false, false, false, false, false, false, false, false, false, false] rfl rfl (any_of HT_.out (by kernel_rfl)) (h := ?_)
                 refine pp_ (i := 5) (N := some 95) #[true, true, false, false, false, true, false, false, false, false, false, false, false, false] rfl rfl (any_of HT_.out (by kernel_rfl)) (h := ?_)
                 refine take_ (i := 2) (N := some 92) (v := ?_) (a' := ?_) #[true, true, true, false, false, true, false, false, false, false, false, false, false, false] rfl rfl (take_ofW HT_.out HW_.out (by kernel_rfl)) (fun _ _ _ h => h) (Or.inl ⟨by rfl, ?_⟩) hHeld ?_ ?_
                 rotate_left
                 ·rintro w' ⟨s0, s1, s2, s3, s4, s5, s6, s7⟩
                  go_simp
                  with_reducible rfl
                 rotate_left
                 ·simp only [Act.put, List.setIfInBounds_toArray, List.set_cons_zero, List.set_cons_succ, i64_w, i32_w]
                  rfl
                 refine pp_ (i := 3) (N := some 93) #[true, true, true, true, false, true, false, false, false, false, false, false, false, false] rfl rfl (any_of HT_.out (by kernel_rfl)) (h := ?_)
                 refine take_ (i := 4) (N := some 94) (v := ?_) (a' := ?_) #[true, true, true, true, true, true, false, false, false, false, false, false, false, false] rfl rfl (take_ofW HT_.out HW_.out (by kernel_rfl)) (fun _ _ _ h => h) (Or.inl ⟨by rfl, ?_⟩) hHeld ?_ ?_
                 rotate_left
                 ·rintro w' ⟨s0, s1, s2, s3, s4, s5, s6, s7⟩
                  go_simp
                  with_reducible rfl
                 rotate_left
                 ·simp only [Act.put, List.setIfInBounds_toArray, List.set_cons_zero, List.set_cons_succ, i64_w, i32_w]
                  rfl
                 refine take_ (i := 6) (N := some 96) (v := ?_) (a' := ?_) #[true, true, true, true, true, true, true, false, false, false, false, false, false, false] rfl rfl (take_ofW HT_.out HW_.out (by kernel_rfl)) (fun _ _ _ h => h) (Or.inl ⟨by rfl, ?_⟩) hHeld ?_ ?_
                 rotate_left
                 ·rintro w' ⟨s0, s1, s2, s3, s4, s5, s6, s7⟩
                  go_simp
                  with_reducible rfl
                 rotate_left
                 ·simp only [Act.put, List.setIfInBounds_toArray, List.set_cons_zero, List.set_cons_succ, i64_w, i32_w]
                  rfl
                 refine one_ (i := 7) (N := some 97) #[true, true, true, true, true, true, true, true, false, false, false, false, false, false] rfl rfl (one_of HT_.out (by kernel_rfl)) (by decide) (fun K hK => ?_)
                 refine Kd.R_lit_step k24 _ 24 ?hg (N := 97) ?hd (xs := ([(⟨(rd_T69 t264 x80_2).f4.f0, (rd_T69 t264 x80_2).f4.f1, (rd_T69 t264 x80_2).f4.f2⟩ : S24)] : List (S24))) (inner := [.int .i64 ((rd_T69 t264 x80_2).f4.f0), .string ((rd_T69 t264 x80_2).f4.f1), .string ((rd_T69 t264 x80_2).f4.f2)]) (ok := fun _ => True) (okp := fun _ => True) ?hr ?hp (fun _ hk => hk) trivial (Below.refl _ _) (Nat.le_refl _) (by simp) ?_; (case hd => rfl); (case hg => rfl); (case hr => first | (go_simp; done) | (go_simp; rfl)); (case hp => exact (Reps.c3 (show Kd.M k24 _ _ _ (⟨(rd_T69 t264 x80_2).f4.f0, (rd_T69 t264 x80_2).f4.f1, (rd_T69 t264 x80_2).f4.f2⟩ : S24) [.int .i64 ((rd_T69 t264 x80_2).f4.f0), .string ((rd_T69 t264 x80_2).f4.f1), .string ((rd_T69 t264 x80_2).f4.f2)] from (k24_mkM _ _ _ (⟨(rd_T69 t264 x80_2).f4.f0, (rd_T69 t264 x80_2).f4.f1, (rd_T69 t264 x80_2).f4.f2⟩ : S24) )) (Reps.none _ _)))
                 intro v296 w105 ho106 hb hg_ hnew_
                 have HS7_ := (hb.cell (World.block_lt_of_cell? _ _ (hHeld.2.2.2.2.2.2.2))).trans (hHeld.2.2.2.2.2.2.2)
                 clear hg_ hnew_
                 (first | rw [← Ny295.out] at ho106 | (simp only [Int.reduceToNat] at ho106; rw [← Ny295.out] at ho106))
                 have n0_ := Aside0.mk (Kd.R_below (rw_ HO_7.out) hb)
                 have n1_ := Aside0.mk (Kd.R_below (rw_ HO_8.out) hb)
                 have n2_ := Aside0.mk (Kd.V_elder' (vw_ HO_78.out) (Kd.R_base ho106) hb)
                 have n3_ := Aside0.mk (Kd.V_elder' (vw_ HO_270000.out) (Kd.R_base ho106) hb)
                 have n4_ := Aside0.mk (Kd.R_lower ho106 (below_size (hb_ HB)))
                 have n5_ := bb_ BK263 hb
                 have n6_ := bb_ BK269 hb
                 have n7_ := bb_ BK292 hb
                 have n8_ := bs_ HB hb
                 clear HO_7
                 clear HO_8
                 clear HO_78
                 clear HO_270000
                 clear BK263
                 clear BK269
                 clear BK292
                 clear HB
                 have HO_7 := n0_
                 have HO_8 := n1_
                 have HO_78 := n2_
                 have HO_270000 := n3_
                 have HO297 := n4_
                 have BK263 := n5_
                 have BK269 := n6_
                 have BK292 := n7_
                 have HB := n8_
                 clear n0_ n1_ n2_ n3_ n4_ n5_ n6_ n7_ n8_
                 clear hb ho106
                 obtain ⟨Ao107, co107, eo107⟩ := Kd.R_slice HO297.out
                 (first | subst eo107 | (injection eo107 with f1_ f2_ f3_; have f4_ := f1_.symm; have f5_ := f3_.symm; clear f1_ f2_ f3_; subst f4_; subst f5_))
                 refine hK.out _ _ ⟨(blk_cell BK292.out 0).trans rfl, (blk_cell BK292.out 1).trans rfl, (blk_cell BK292.out 2).trans rfl, (blk_cell BK292.out 3).trans rfl, (blk_cell BK292.out 4).trans rfl, (blk_cell BK292.out 5).trans rfl, (blk_cell BK292.out 6).trans rfl, HS7_⟩ (fun hHeld => ?_)
                 clear hK K
                 refine norm_ (a' := ?_) ?_ ?_
                 rotate_left
                 ·show Act.put _ (some 97) _ = _
                  simp only [Act.put, List.setIfInBounds_toArray, List.set_cons_zero, List.set_cons_succ, i64_w, i32_w]
                  rfl
                 refine one_ (i := 8) (N := some 98) #[true, true, true, true, true, true, true, true, true, false, false, false, false, false] rfl rfl (one_of HT_.out (by kernel_rfl)) (by decide) (fun K hK => ?_)
                 refine goes_ Try.func21 (by kernel_rfl) rfl #[.string (rdOf ByteArray.empty x7_2 ((rd_T69 t264 x80_2).f0)), .slice Ao107 y295.length co107] (by rfl) rfl rfl (by (try simp only [List.map_toArray, List.map_cons, List.map_nil]); first | done | rfl | (simp only [List.length_drop, List.length_take]; rfl)) ?_
                 with_reducible refine (change_Do.calls k2 (rdOf ByteArray.empty x7_2 ((rd_T69 t264 x80_2).f0)) _ _ y295 t298 t299 _ ?side1 ?side2 A79.out).mono ?_
                 (case side1 => repeat (first | exact (Kd.R_reads' HO297.out).2.2 | (with_reducible refine Kd.C_alloc ?_ _) | (with_reducible refine Kd.C_drewN ?_ _) | (with_reducible refine Kd.C_drew ?_)))
                 (case side2 => exact (Kd.R_reads' HO297.out).2.1)
                 rintro e w108 ⟨rfl, hb⟩
                 have HS7_ := (hb.cell (World.block_lt_of_cell? _ _ (hHeld.2.2.2.2.2.2.2))).trans (hHeld.2.2.2.2.2.2.2)
                 refine ⟨_, rfl, ?_⟩
                 have n0_ := Aside0.mk (Kd.R_below (rw_ HO_7.out) hb)
                 have n1_ := Aside0.mk (Kd.R_below (rw_ HO_8.out) hb)
                 have n2_ := Aside0.mk (Kd.V_below (vw_ HO_78.out) hb)
                 have n3_ := Aside0.mk (Kd.V_below (vw_ HO_270000.out) hb)
                 have n4_ := Aside0.mk (Kd.R_below (rw_ HO297.out) hb)
                 have n5_ := bb_ BK263 hb
                 have n6_ := bb_ BK269 hb
                 have n7_ := bb_ BK292 hb
                 have n8_ := bs_ HB hb
                 clear HO_7
                 clear HO_8
                 clear HO_78
                 clear HO_270000
                 clear HO297
                 clear BK263
                 clear BK269
                 clear BK292
                 clear HB
                 have HO_7 := n0_
                 have HO_8 := n1_
                 have HO_78 := n2_
                 have HO_270000 := n3_
                 have HO297 := n4_
                 have BK263 := n5_
                 have BK269 := n6_
                 have BK292 := n7_
                 have HB := n8_
                 clear n0_ n1_ n2_ n3_ n4_ n5_ n6_ n7_ n8_
                 (try clear hb)
                 (try clear hb2)
                 (try clear hk)
                 (try clear hi)
                 refine hK.out _ _ ⟨(blk_cell BK292.out 0).trans rfl, (blk_cell BK292.out 1).trans rfl, (blk_cell BK292.out 2).trans rfl, (blk_cell BK292.out 3).trans rfl, (blk_cell BK292.out 4).trans rfl, (blk_cell BK292.out 5).trans rfl, (blk_cell BK292.out 6).trans rfl, HS7_⟩ (fun hHeld => ?_)
                 clear hK K
                 refine norm_ (a' := ?_) ?_ ?_
                 rotate_left
                 ·show Act.put _ (some 98) _ = _
                  simp only [Act.put, List.setIfInBounds_toArray, List.set_cons_zero, List.set_cons_succ, i64_w, i32_w]
                  rfl
                 refine pp_ (i := 9) (N := some 89) #[true, true, true, true, true, true, true, true, true, true, false, false, false, false] rfl rfl (any_of HT_.out (by kernel_rfl)) (h := ?_)
                 refine pp_ (i := 10) (N := some 99) #[true, true, true, true, true, true, true, true, true, true, true, false, false, false] rfl rfl (any_of HT_.out (by kernel_rfl)) (h := ?_)
                 refine pp_ (i := 11) (N := some 100) #[true, true, true, true, true, true, true, true, true, true, true, true, false, false] rfl rfl (any_of HT_.out (by kernel_rfl)) (h := ?_)
                 refine pp_ (i := 12) (N := some 15) #[true, true, true, true, true, true, true, true, true, true, true, true, true, false] rfl rfl (any_of HT_.out (by kernel_rfl)) (h := ?_)
                 refine pp_ (i := 13) (N := some 16) #[true, true, true, true, true, true, true, true, true, true, true, true, true, true] rfl rfl (any_of HT_.out (by kernel_rfl)) (h := ?_)
                 refine done_ (done_of HT_.out (by kernel_rfl)) ?_
                 try go_wp2
                 go_ret2
                 exact ⟨_, er_, by first | exact Kd.R_nil _ _ _ _ _ | exact Kd.N_nil _ _ _ _ _ | exact Kd.V_nil _ _ _ _ _ | exact Kd.Q_nil _ _ _ _ _ | exact Kd.S_nil _ _ _ _ _, hb_ HB⟩
               ·rw [if_neg c78] at H
                exact absurd H (by simp)
              ·rw [if_neg c77] at H
               exact absurd H (by simp)
            ·rw [if_neg c69] at H
             exact absurd H (by simp)
           ·rw [if_neg c68] at H
            exact absurd H (by simp)
          ·rw [if_neg c67] at H
           exact absurd H (by simp)
         ·rw [if_neg c66] at H
          have c66b0 : decide (x80_2 < (t264.length : Int)) = false := decide_eq_false c66
          clear c66
          simp only [Option.some.injEq, Prod.mk.injEq] at H
          obtain ⟨rfl, rfl⟩ := H
          go_wp2
          go_ret2
          exact ⟨_, er_, by (with_reducible repeat (first | apply Kd.R_alloc | apply Kd.R_drewN | apply Kd.R_drew)); exact HO_7.out, hb_ HB⟩
    ·rw [if_neg c7] at H
     exact absurd H (by simp)
   ·rw [if_neg c6] at H
    exact absurd H (by simp)
  ·rw [if_neg c5] at H
   exact absurd H (by simp)
 ·replace c4 := Bool.eq_false_iff.mpr c4
  subst c4
  have H1 : (some (([] : List ByteArray), 1)) = some (r1, r2) := by rw [if_neg (show ¬ (false = true) by decide)] at H; exact H
  clear H
  have H := H1
  clear H1
  simp only [Option.some.injEq, Prod.mk.injEq] at H
  obtain ⟨rfl, rfl⟩ := H
  go_enter Try.func55, Try.ntmps55
  go_wp2_with (first | ((with_reducible refine gate_dst (N := 2) rfl ?_); refine be_ (N := 2) (cs := #[.slice A0_0 l0_0.length c0_0, .int .i64 a0_1]) (t := 46) (h := ?_); intro gb263 hg w109 hbox hb; have BK263 := Aside0.mk (hbox); have GW263 := gw_ HB hg; have GE263 := gw_ HB hg; replace HB := bs_ HB hb; clear hb hbox hg; obtain ⟨hcz110_0, hcz110_1, hfz110_0, hfz110_1⟩ := bc2_ BK263) | ((with_reducible refine gate_callee (f := 79) rfl ?_); refine ge_ (some 18) rfl rfl Try.func79 (by kernel_rfl) rfl #[.agg #[.slice A0_0 l0_0.length c0_0, .int .i64 a0_1]] rfl (h := ?_); (with_reducible refine (tree_open.calls k (fun k_ => k_ < w.heap.size) _ _ l0_0 a0_1 t264 t267 false _ ?side1 A3.out).mono ?_); (case side1 => exact Kd.V_mk HC0_0.out (Kd.F_below (Kd.C_F k69_heap HR0_0.out) (hb_ HB))); rintro e w111 ⟨v265, rfl, ho0, hb⟩; refine ⟨_, rfl, ?_⟩; have HO266 := Aside0.mk (Kd.V_lower (Kd.V_mono (ok' := fun k_ => k_ ≠ gb263) ho0 (fun k_ hk_ => Or.elim hk_ (fun hs_ => fun e_ => Nat.not_le.2 hs_ (by rw [e_]; exact GW263.out)) (fun hn_ => (Kd.freshB (g := gb263) (o := .cells #[.slice A0_0 l0_0.length c0_0, .int .i64 a0_1] 46 (0, 0)) (bw_ BK263.out) k_ hn_)))) (below_size (hb_ HB))); replace BK263 := bb_ BK263 hb; replace HB := bs_ HB hb; (try clear hb); (try clear hb2); (try clear hk); (try clear hi); (try clear ho0)) | ((with_reducible refine gate_dst (N := 6) rfl ?_); refine be_ (N := 6) (cs := #[.slice none 0 0, .int .i64 0, .bool false]) (t := 104) (h := ?_); intro gb269 hg w112 hbox hb; have BK269 := Aside0.mk (hbox); have GW269 := gw_ HB hg; have GE269 := gw_ HB hg; have NB263_269 := ne_ BK263 hg; have NB269_263 := en_ BK263 hg; replace HO266 := Aside0.mk (Kd.V_below (Kd.V_elderB (vw_ HO266.out) gb269 (Nat.le_of_eq hg.symm)) hb); replace BK263 := bb_ BK263 hb; replace HB := bs_ HB hb; clear hb hbox hg; obtain ⟨Ao113, co113, eo113⟩ := Kd.V_slice HO266.out; subst eo113; have hnb114 := NB269_263.out; have hnc114 := NB263_269.out; obtain ⟨hcz115_0, hcz115_1, hcz115_2, hfz115_0, hfz115_1, hfz115_2⟩ := bc3_ BK269))
  go_ret2
  exact ⟨_, er_, by first | exact Kd.R_nil _ _ _ _ _ | exact Kd.N_nil _ _ _ _ _ | exact Kd.V_nil _ _ _ _ _ | exact Kd.Q_nil _ _ _ _ _ | exact Kd.S_nil _ _ _ _ _, hb_ HB⟩

end Go.Proofs.Ytkiokimpblimcaa.PTreeKeeps
