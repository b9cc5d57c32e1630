/- Of the law calamus/calamuslaw33.RecordReads: each function as a plain Lean function, with a proof that the call comes to it; the row. By wip/tpl/own_print.py. Conditions: none but the row's own. -/
import Derived.Test.YtealbonfaebikaaORecordReadsx0
import Derived.Test.YtealbonfaebikaaORecordReadsx1
import Derived.Test.YtealbonfaebikaaORecordReadsx3
import Derived.Test.YtealbonfaebikaaORecordReadsx5
import Derived.Test.YtealbonfaebikaaORecordReadsx7
namespace Go.Proofs.Ytealbonfaebikaa.PRecordReads
open Go.RowKit Go.Proofs.YtealbonfaebikaaW.PrintWords Go.Proofs.YtealbonfaebikaaW.PrintLast Go.Proofs.YtealbonfaebikaaW.PrintMore
attribute [local go_sem] max2_int min2_int max_two min_two max_three min_three max_four min_four   -- for this text's walks alone
set_option linter.unusedVariables false
set_option linter.unusedSimpArgs false

attribute [local go_sem high] eqA24
/-! ### record_Scan: function 26 -/
def record_Scan.l0 : Nat → ByteArray → Int → List (S24) → Int → Option ((List (S24)) × Int)
 | 0, _, _, _, _ => none
 | k + 1, x0, x1, x6, x7 => if 0 ≤ x7 then (if x7 ≤ (x0.size : Int) then ((record_Read.f k (x0.extract (x7 : Int).toNat x0.size)).bind fun bt204 => (if bt204.2.2.2.2.2 = 0 then (if bt204.2.1 = x1 then (if bt204.2.2.1 = (x6.length : Int) then (if x6.length < 3518437208883 then (record_Scan.l0 k x0 x1 (x6 ++ [(⟨bt204.1, bt204.2.1, bt204.2.2.1, bt204.2.2.2.1⟩ : S24)]) (wrap64 (x7 + bt204.2.2.2.2.1))) else (none)) else (some (x6, x7))) else (some (x6, x7))) else (some (x6, x7)))) else (none)) else (none)
def record_Scan.f (k : Nat) (a0 : ByteArray) (a1 : Int) : Option ((List (S24)) × Int) := record_Scan.l0 k a0 a1 ([] : List (S24)) 0
theorem record_Scan.mono_l : ∀ k, (∀ y0 y1 y2 y3, LeO (record_Scan.l0 k y0 y1 y2 y3) (record_Scan.l0 (k + 1) y0 y1 y2 y3))
 | 0 => fun _ _ _ _ r h => by simp [record_Scan.l0] at h
 | k + 1 => by
  have ih0 := record_Scan.mono_l k
  ·intro y0 y1 y2 y3
   unfold record_Scan.l0
   repeat' first
   | (with_reducible exact ih0 _ _ _ _)
   | (with_reducible exact record_Read.mono _ _)
   | (with_reducible exact LeO.refl _)
   | (with_reducible exact LeO.none _)
   | (with_reducible refine LeO.ite ?_ ?_)
   | (with_reducible refine LeO.bind ?_ (fun _ => ?_))
   | exact ih0 _ _ _ _
   | exact record_Read.mono _ _
   | exact LeO.none _
   | refine LeO.ite ?_ ?_
   | refine LeO.bind ?_ (fun _ => ?_)
theorem record_Scan.mono : ∀ a0 a1 k, LeO (record_Scan.f k a0 a1) (record_Scan.f (k + 1) a0 a1) := by
 intro a0 a1 k
 have ih0 := record_Scan.mono_l k
 unfold record_Scan.f
 repeat' first
   | (with_reducible exact ih0 _ _ _ _)
   | (with_reducible exact record_Read.mono _ _)
   | (with_reducible exact LeO.refl _)
   | (with_reducible exact LeO.none _)
   | (with_reducible refine LeO.ite ?_ ?_)
   | (with_reducible refine LeO.bind ?_ (fun _ => ?_))
   | exact ih0 _ _ _ _
   | exact record_Read.mono _ _
   | exact LeO.none _
   | refine LeO.ite ?_ ?_
   | refine LeO.bind ?_ (fun _ => ?_)
set_option maxHeartbeats 8000000 in
set_option maxRecDepth 100000 in
theorem record_Scan.calls (k : Nat) (a0 : ByteArray) (a1 : Int) (r1 : List (S24)) (r2 : Int) (w : World) (h : record_Scan.f k a0 a1 = some (r1, r2)) :
  Calls Try.prog 26 #[.string a0, .int .i64 a1] w fun e w' => ∃ v0_ : Value, e = .returned (.tuple #[v0_, .int .i64 r2]) ∧ Kd.R k24 24 w' w.heap.size (fun _ => True) v0_ r1 ∧ Below w.heap.size w w' := by
 have hu24 := Try.underlying24
 have HB := Aside0.mk (Below.refl w.heap.size w)
 have H : (record_Scan.l0 k a0 a1 ([] : List (S24)) 0) = some (r1, r2) := h
 clear h
 have H' := Aside0.mk H
 clear H
 go_enter Try.func26, Try.ntmps26
 go_wp2
 go_loopg [6, 7] k (fun kq v6 v7 w' => ∃ (x6_1 : List (S24)) (x7_1 : Int), v7 = .int .i64 x7_1 ∧ Aside0 (record_Scan.l0 kq a0 a1 x6_1 x7_1 = some (r1, r2)) ∧ Aside0 (kq ≤ k) ∧ Aside0 (Kd.R k24 24 w' w.heap.size (fun _ => True) v6 x6_1) ∧ Aside0 (Below w.heap.size w w'))
 case atStart => exact ⟨(([] : List (S24))), (0), es_, H', ⟨Nat.le_refl _⟩, ⟨by first | exact Kd.R_nil _ _ _ _ _ | exact Kd.N_nil _ _ _ _ _ | exact Kd.V_nil _ _ _ _ _ | exact Kd.Q_nil _ _ _ _ _ | exact Kd.S_nil _ _ _ _ _⟩, ⟨hb_ HB⟩⟩
 case round =>
  clear H'
  obtain ⟨x6_1, x7_1, rfl, HA, HK1, HO_6, HB⟩ := hrel
  cases gk with
  | zero => exact absurd HA.out (by simp [record_Scan.l0])
  | succ k1 =>
   have H := HA.out
   clear HA
   simp only [record_Scan.l0] at H
   by_cases c3 : 0 ≤ x7_1
   ·rw [if_pos c3] at H
    have c3b0 := eq_true c3
    try (have c3b0x := c3b0; simp only [ByteArray.size_extract, Nat.min_self] at c3b0x)
    have c3b1 : decide (0 ≤ x7_1) = true := decide_eq_true c3
    clear c3
    by_cases c4 : x7_1 ≤ (a0.size : Int)
    ·rw [if_pos c4] at H
     have c4b0 := eq_true c4
     try (have c4b0x := c4b0; simp only [ByteArray.size_extract, Nat.min_self] at c4b0x)
     have c4b1 : decide (x7_1 ≤ (a0.size : Int)) = true := decide_eq_true c4
     clear c4
     replace H := Option.bind_eq_some_iff.mp H
     obtain ⟨⟨t204, t205, t206, t207, t208, t209⟩, A50, H⟩ := H
     replace H : (if t209 = 0 then (if t205 = a1 then (if t206 = (x6_1.length : Int) then (if x6_1.length < 3518437208883 then (record_Scan.l0 k1 a0 a1 (x6_1 ++ [(⟨t204, t205, t206, t207⟩ : S24)]) (wrap64 (x7_1 + t208))) else (none)) else (some (x6_1, x7_1))) else (some (x6_1, x7_1))) else (some (x6_1, x7_1))) = some (r1, r2) := H
     have A5 := Aside0.mk A50
     clear A50
     by_cases c6 : t209 = 0
     ·rw [if_pos c6] at H
      have c6b0 : (t209 == 0) = true := beq_iff_eq.mpr c6
      have c6b1 : (t209 != 0) = false := bne_eq_false_iff_eq.mpr c6
      clear c6
      by_cases c7 : t205 = a1
      ·rw [if_pos c7] at H
       have c7b0 : (t205 == a1) = true := beq_iff_eq.mpr c7
       have c7b1 : (t205 != a1) = false := bne_eq_false_iff_eq.mpr c7
       clear c7
       by_cases c8 : t206 = (x6_1.length : Int)
       ·rw [if_pos c8] at H
        have c8b0 : (t206 == (x6_1.length : Int)) = true := beq_iff_eq.mpr c8
        have c8b1 : (t206 != (x6_1.length : Int)) = false := bne_eq_false_iff_eq.mpr c8
        clear c8
        by_cases c9 : x6_1.length < 3518437208883
        ·rw [if_pos c9] at H
         have LMc9 := Aside0.mk c9
         clear c9
         obtain ⟨y211, hy211⟩ : ∃ y_ : List (S24), y_ = (x6_1 ++ [(⟨t204, t205, t206, t207⟩ : S24)]) := ⟨_, rfl⟩
         replace H : (record_Scan.l0 k1 a0 a1 y211 (wrap64 (x7_1 + t208))) = some (r1, r2) := th_ H hy211
         have Ny211 := Aside0.mk hy211
         clear hy211
         have H' := Aside0.mk H
         clear H
         go_wp2_with (first | ((with_reducible refine gate_callee (f := 24) rfl ?_); refine ge_ (some 15) rfl rfl Try.func24 (by kernel_rfl) rfl #[.string (a0.extract (x7_1 : Int).toNat a0.size)] rfl (h := ?_); (with_reducible refine (record_Read.calls k1 (a0.extract (x7_1 : Int).toNat a0.size) t204 t205 t206 t207 t208 t209 _ A5.out).mono ?_); rintro e w10 ⟨rfl, hb⟩; refine ⟨_, rfl, ?_⟩; replace HO_6 := Aside0.mk (Kd.R_below (rw_ HO_6.out) hb); replace HB := bs_ HB hb; (try clear hb); (try clear hb2); (try clear hk); (try clear hi)) | ((with_reducible refine gate_dst (N := 8) rfl ?_); (try (refine gate_guard (by rfl) ?_; dsimp only)); refine be_ (N := 8) (cs := #[.int .i64 0, .int .i64 0, .int .i64 0, .string (⟨#[]⟩ : ByteArray)]) (t := 24) (h := ?_); intro gb210 hg w11 hbox hb; have BK210 := Aside0.mk (hbox); have GW210 := gw_ HB hg; have GE210 := gw_ HB hg; replace HO_6 := Aside0.mk (Kd.R_below (Kd.R_elderB (rw_ HO_6.out) gb210 (Nat.le_of_eq hg.symm)) hb); replace HB := bs_ HB hb; clear hb hbox hg; obtain ⟨hcz12_0, hcz12_1, hcz12_2, hcz12_3, hfz12_0, hfz12_1, hfz12_2, hfz12_3⟩ := bc4_ BK210; obtain ⟨Ao13, co13, eo13⟩ := Kd.R_slice HO_6.out; subst eo13) | ((with_reducible refine gate_builtin (b := .append) (xs := #[.tmp 36, .tmp 38]) rfl ?_); (try (refine gate_guard (by rfl) ?_; dsimp only)); at_builtin; refine Kd.R_append k24 (w0 := w) w.heap.size rfl (.tmp 36) (.tmp 38) 45 24 (.agg #[(.int .i64 0), (.int .i64 0), (.int .i64 0), (.string ⟨#[]⟩)]) 40 rfl Try.underlying45 info24 rfl (by decide) (by omega) (.slice Ao13 x6_1.length co13) x6_1 (⟨t204, t205, t206, t207⟩ : S24) [.int .i64 t204, .int .i64 t205, .int .i64 t206, .string t207] (fun k_ => k_ ≠ gb210) (fun _ => False) rfl (by first | (go_simp; done) | (go_simp; rfl)) ?aP (fun _ hk => hk.elim) ?aF ?aO ?aB ?aS ?aL ?_; (case aP => exact k24_mkM _ _ _ (⟨t204, t205, t206, t207⟩ : S24)); (case aB => exact (hb_ HB)); (case aF => exact (fun k_ hk => Kd.freshB (g := gb210) (o := .cells #[.int .i64 t204, .int .i64 t205, .int .i64 t206, .string t207] 24 (0, 0)) (bp_ BK210.out) k_ hk)); (case aO => exact (by (with_reducible repeat (first | apply Kd.R_alloc | apply Kd.R_drewN | apply Kd.R_drew)); exact Kd.R_mono (rf_ (Kd.R_mono HO_6.out (fun k_ hk => (⟨hk, hk.2⟩ : _ ∧ k_ ≠ gb210))) (fun _ hk => hk.2)) (fun _ hk => hk.1.2))); (case aS => exact (below_size (hb_ HB))); (case aL => have := LMc9.out; omega); intro v212 w14 ho hb hg hat; rw [← Ny211.out] at ho; have n0_ := Aside0.mk (blk_grown (g := gb210) (o := .cells #[.int .i64 t204, .int .i64 t205, .int .i64 t206, .string t207] 24 (0, 0)) (bp_ BK210.out) hg (Kd.R_away HO_6.out (fun _ hk => hk.2))); have n1_ := Aside0.mk (hb); have n2_ := Aside0.mk (ho); clear BK210; clear HB; clear HO_6; have BK210 := n0_; have HB := n1_; have HO213 := n2_; clear n0_ n1_ n2_; clear ho hb hg hat))
         go_roundg k1
         case measure => have := HK1.out; omega
         case rel => exact ⟨(y211), (wrap64 (x7_1 + t208)), es_, H', ⟨by have := HK1.out; omega⟩, ⟨by (with_reducible repeat (first | apply Kd.R_alloc | apply Kd.R_drewN | apply Kd.R_drew)); exact Kd.R_mono HO213.out (fun _ hk => trivial)⟩, ⟨hb_ HB⟩⟩
        ·rw [if_neg c9] at H
         exact absurd H (by simp)
       ·rw [if_neg c8] at H
        have c8b0 : (t206 == (x6_1.length : Int)) = false := beq_eq_false_iff_ne.mpr c8
        have c8b1 : (t206 != (x6_1.length : Int)) = true := bne_iff_ne.mpr c8
        simp only [Option.some.injEq, Prod.mk.injEq] at H
        obtain ⟨rfl, rfl⟩ := H
        go_wp2_with (first | ((with_reducible refine gate_callee (f := 24) rfl ?_); refine ge_ (some 15) rfl rfl Try.func24 (by kernel_rfl) rfl #[.string (a0.extract (x7_1 : Int).toNat a0.size)] rfl (h := ?_); (with_reducible refine (record_Read.calls k1 (a0.extract (x7_1 : Int).toNat a0.size) t204 t205 t206 t207 t208 t209 _ A5.out).mono ?_); rintro e w15 ⟨rfl, hb⟩; refine ⟨_, rfl, ?_⟩; replace HO_6 := Aside0.mk (Kd.R_below (rw_ HO_6.out) hb); replace HB := bs_ HB hb; (try clear hb); (try clear hb2); (try clear hk); (try clear hi)) | ((with_reducible refine gate_dst (N := 8) rfl ?_); (try (refine gate_guard (by rfl) ?_; dsimp only)); refine be_ (N := 8) (cs := #[.int .i64 0, .int .i64 0, .int .i64 0, .string (⟨#[]⟩ : ByteArray)]) (t := 24) (h := ?_); intro gb210 hg w16 hbox hb; have BK210 := Aside0.mk (hbox); have GW210 := gw_ HB hg; have GE210 := gw_ HB hg; replace HO_6 := Aside0.mk (Kd.R_below (Kd.R_elderB (rw_ HO_6.out) gb210 (Nat.le_of_eq hg.symm)) hb); replace HB := bs_ HB hb; clear hb hbox hg; obtain ⟨hcz17_0, hcz17_1, hcz17_2, hcz17_3, hfz17_0, hfz17_1, hfz17_2, hfz17_3⟩ := bc4_ BK210; obtain ⟨Ao18, co18, eo18⟩ := Kd.R_slice HO_6.out; subst eo18))
        go_ret2
        exact ⟨_, er_, by (with_reducible repeat (first | apply Kd.R_alloc | apply Kd.R_drewN | apply Kd.R_drew)); exact Kd.R_mono (rf_ (Kd.R_mono HO_6.out (fun k_ hk => (⟨hk, hk.2⟩ : _ ∧ k_ ≠ gb210))) (fun _ hk => hk.2)) (fun _ hk => trivial), hb_ HB⟩
      ·rw [if_neg c7] at H
       have c7b0 : (t205 == a1) = false := beq_eq_false_iff_ne.mpr c7
       have c7b1 : (t205 != a1) = true := bne_iff_ne.mpr c7
       simp only [Option.some.injEq, Prod.mk.injEq] at H
       obtain ⟨rfl, rfl⟩ := H
       go_wp2_with (first | ((with_reducible refine gate_callee (f := 24) rfl ?_); refine ge_ (some 15) rfl rfl Try.func24 (by kernel_rfl) rfl #[.string (a0.extract (x7_1 : Int).toNat a0.size)] rfl (h := ?_); (with_reducible refine (record_Read.calls k1 (a0.extract (x7_1 : Int).toNat a0.size) t204 t205 t206 t207 t208 t209 _ A5.out).mono ?_); rintro e w19 ⟨rfl, hb⟩; refine ⟨_, rfl, ?_⟩; replace HO_6 := Aside0.mk (Kd.R_below (rw_ HO_6.out) hb); replace HB := bs_ HB hb; (try clear hb); (try clear hb2); (try clear hk); (try clear hi)) | ((with_reducible refine gate_dst (N := 8) rfl ?_); (try (refine gate_guard (by rfl) ?_; dsimp only)); refine be_ (N := 8) (cs := #[.int .i64 0, .int .i64 0, .int .i64 0, .string (⟨#[]⟩ : ByteArray)]) (t := 24) (h := ?_); intro gb210 hg w20 hbox hb; have BK210 := Aside0.mk (hbox); have GW210 := gw_ HB hg; have GE210 := gw_ HB hg; replace HO_6 := Aside0.mk (Kd.R_below (Kd.R_elderB (rw_ HO_6.out) gb210 (Nat.le_of_eq hg.symm)) hb); replace HB := bs_ HB hb; clear hb hbox hg; obtain ⟨hcz21_0, hcz21_1, hcz21_2, hcz21_3, hfz21_0, hfz21_1, hfz21_2, hfz21_3⟩ := bc4_ BK210))
       go_ret2
       exact ⟨_, er_, by (with_reducible repeat (first | apply Kd.R_alloc | apply Kd.R_drewN | apply Kd.R_drew)); exact Kd.R_mono (rf_ (Kd.R_mono HO_6.out (fun k_ hk => (⟨hk, hk.2⟩ : _ ∧ k_ ≠ gb210))) (fun _ hk => hk.2)) (fun _ hk => trivial), hb_ HB⟩
     ·rw [if_neg c6] at H
      have c6b0 : (t209 == 0) = false := beq_eq_false_iff_ne.mpr c6
      have c6b1 : (t209 != 0) = true := bne_iff_ne.mpr c6
      simp only [Option.some.injEq, Prod.mk.injEq] at H
      obtain ⟨rfl, rfl⟩ := H
      go_wp2_with (first | ((with_reducible refine gate_callee (f := 24) rfl ?_); refine ge_ (some 15) rfl rfl Try.func24 (by kernel_rfl) rfl #[.string (a0.extract (x7_1 : Int).toNat a0.size)] rfl (h := ?_); (with_reducible refine (record_Read.calls k1 (a0.extract (x7_1 : Int).toNat a0.size) t204 t205 t206 t207 t208 t209 _ A5.out).mono ?_); rintro e w22 ⟨rfl, hb⟩; refine ⟨_, rfl, ?_⟩; replace HO_6 := Aside0.mk (Kd.R_below (rw_ HO_6.out) hb); replace HB := bs_ HB hb; (try clear hb); (try clear hb2); (try clear hk); (try clear hi)) | ((with_reducible refine gate_dst (N := 8) rfl ?_); (try (refine gate_guard (by rfl) ?_; dsimp only)); refine be_ (N := 8) (cs := #[.int .i64 0, .int .i64 0, .int .i64 0, .string (⟨#[]⟩ : ByteArray)]) (t := 24) (h := ?_); intro gb210 hg w23 hbox hb; have BK210 := Aside0.mk (hbox); have GW210 := gw_ HB hg; have GE210 := gw_ HB hg; replace HO_6 := Aside0.mk (Kd.R_below (Kd.R_elderB (rw_ HO_6.out) gb210 (Nat.le_of_eq hg.symm)) hb); replace HB := bs_ HB hb; clear hb hbox hg; obtain ⟨hcz24_0, hcz24_1, hcz24_2, hcz24_3, hfz24_0, hfz24_1, hfz24_2, hfz24_3⟩ := bc4_ BK210))
      go_ret2
      exact ⟨_, er_, by (with_reducible repeat (first | apply Kd.R_alloc | apply Kd.R_drewN | apply Kd.R_drew)); exact Kd.R_mono (rf_ (Kd.R_mono HO_6.out (fun k_ hk => (⟨hk, hk.2⟩ : _ ∧ k_ ≠ gb210))) (fun _ hk => hk.2)) (fun _ hk => trivial), hb_ HB⟩
    ·rw [if_neg c4] at H
     exact absurd H (by simp)
   ·rw [if_neg c3] at H
    exact absurd H (by simp)

/-! ### calamusref33_Scan: function 27 -/
def calamusref33_Scan.l0 : Nat → ByteArray → Int → List (S26) → Int → Int → Int → Int → Int → Int → ByteArray → Option ((List (S26)) × Int)
 | 0, _, _, _, _, _, _, _, _, _, _ => none
 | k + 1, x0, x1, x6, x7, x9, x10, x221000, x221001, x221002, x221003 => if x10 = 0 then (if x221001 = x1 then (if x221002 = (x6.length : Int) then (if x6.length < 3518437208883 then (if 0 ≤ x9 then (if x9 ≤ (x0.size : Int) then ((calamusref33_Read.f k (x0.extract (x9 : Int).toNat x0.size)).bind fun bt224 => (calamusref33_Scan.l0 k (x0.extract (x9 : Int).toNat x0.size) x1 (x6 ++ [(⟨x221000, x221001, x221002, x221003⟩ : S26)]) (wrap64 (x7 + x9)) bt224.2.2.2.2.1 bt224.2.2.2.2.2 bt224.1 bt224.2.1 bt224.2.2.1 bt224.2.2.2.1)) else (none)) else (none)) else (none)) else (some (x6, x7))) else (some (x6, x7))) else (some (x6, x7))
def calamusref33_Scan.f (k : Nat) (a0 : ByteArray) (a1 : Int) : Option ((List (S26)) × Int) := (calamusref33_Read.f k a0).bind fun bt214 => (calamusref33_Scan.l0 k a0 a1 ([] : List (S26)) 0 bt214.2.2.2.2.1 bt214.2.2.2.2.2 bt214.1 bt214.2.1 bt214.2.2.1 bt214.2.2.2.1)
theorem calamusref33_Scan.mono_l : ∀ k, (∀ y0 y1 y2 y3 y4 y5 y6 y7 y8 y9, LeO (calamusref33_Scan.l0 k y0 y1 y2 y3 y4 y5 y6 y7 y8 y9) (calamusref33_Scan.l0 (k + 1) y0 y1 y2 y3 y4 y5 y6 y7 y8 y9))
 | 0 => fun _ _ _ _ _ _ _ _ _ _ r h => by simp [calamusref33_Scan.l0] at h
 | k + 1 => by
  have ih0 := calamusref33_Scan.mono_l k
  ·intro y0 y1 y2 y3 y4 y5 y6 y7 y8 y9
   unfold calamusref33_Scan.l0
   repeat' first
   | (with_reducible exact ih0 _ _ _ _ _ _ _ _ _ _)
   | (with_reducible exact calamusref33_Read.mono _ _)
   | (with_reducible exact LeO.refl _)
   | (with_reducible exact LeO.none _)
   | (with_reducible refine LeO.ite ?_ ?_)
   | (with_reducible refine LeO.bind ?_ (fun _ => ?_))
   | exact ih0 _ _ _ _ _ _ _ _ _ _
   | exact calamusref33_Read.mono _ _
   | exact LeO.none _
   | refine LeO.ite ?_ ?_
   | refine LeO.bind ?_ (fun _ => ?_)
theorem calamusref33_Scan.mono : ∀ a0 a1 k, LeO (calamusref33_Scan.f k a0 a1) (calamusref33_Scan.f (k + 1) a0 a1) := by
 intro a0 a1 k
 have ih0 := calamusref33_Scan.mono_l k
 unfold calamusref33_Scan.f
 repeat' first
   | (with_reducible exact ih0 _ _ _ _ _ _ _ _ _ _)
   | (with_reducible exact calamusref33_Read.mono _ _)
   | (with_reducible exact LeO.refl _)
   | (with_reducible exact LeO.none _)
   | (with_reducible refine LeO.ite ?_ ?_)
   | (with_reducible refine LeO.bind ?_ (fun _ => ?_))
   | exact ih0 _ _ _ _ _ _ _ _ _ _
   | exact calamusref33_Read.mono _ _
   | exact LeO.none _
   | refine LeO.ite ?_ ?_
   | refine LeO.bind ?_ (fun _ => ?_)
set_option maxHeartbeats 8000000 in
set_option maxRecDepth 100000 in
theorem calamusref33_Scan.calls (k : Nat) (a0 : ByteArray) (a1 : Int) (r1 : List (S26)) (r2 : Int) (w : World) (h : calamusref33_Scan.f k a0 a1 = some (r1, r2)) :
  Calls Try.prog 27 #[.string a0, .int .i64 a1] w fun e w' => ∃ v0_ : Value, e = .returned (.tuple #[v0_, .int .i64 r2]) ∧ Kd.R k26 26 w' w.heap.size (fun _ => True) v0_ r1 ∧ Below w.heap.size w w' := by
 have hu26 := Try.underlying26
 have HB := Aside0.mk (Below.refl w.heap.size w)
 have H : ((calamusref33_Read.f k a0).bind fun bt214 => (calamusref33_Scan.l0 k a0 a1 ([] : List (S26)) 0 bt214.2.2.2.2.1 bt214.2.2.2.2.2 bt214.1 bt214.2.1 bt214.2.2.1 bt214.2.2.2.1)) = some (r1, r2) := h
 clear h
 replace H := Option.bind_eq_some_iff.mp H
 obtain ⟨⟨t214, t215, t216, t217, t218, t219⟩, A30, H⟩ := H
 replace H : (calamusref33_Scan.l0 k a0 a1 ([] : List (S26)) 0 t218 t219 t214 t215 t216 t217) = some (r1, r2) := H
 have A3 := Aside0.mk A30
 clear A30
 have H' := Aside0.mk H
 clear H
 go_enter Try.func27, Try.ntmps27
 go_wp2_with (first | ((with_reducible refine gate_callee (f := 25) rfl ?_); refine ge_ (some 13) rfl rfl Try.func25 (by kernel_rfl) rfl #[.string a0] rfl (h := ?_); (with_reducible refine (calamusref33_Read.calls k a0 t214 t215 t216 t217 t218 t219 _ A3.out).mono ?_); rintro e w4 ⟨rfl, hb⟩; refine ⟨_, rfl, ?_⟩; replace HB := bs_ HB hb; (try clear hb); (try clear hb2); (try clear hk); (try clear hi)) | ((with_reducible refine gate_dst (N := 8) rfl ?_); (try (refine gate_guard (by rfl) ?_; dsimp only)); refine be_ (N := 8) (cs := #[.int .i64 0, .int .i64 0, .int .i64 0, .string (⟨#[]⟩ : ByteArray)]) (t := 26) (h := ?_); intro gb220 hg w5 hbox hb; have BK220 := Aside0.mk (hbox); have GW220 := gw_ HB hg; have GE220 := gw_ HB hg; replace HB := bs_ HB hb; clear hb hbox hg; obtain ⟨hcz6_0, hcz6_1, hcz6_2, hcz6_3, hfz6_0, hfz6_1, hfz6_2, hfz6_3⟩ := bc4_ BK220))
 go_loopg [0, 6, 7, 9, 10] k (fun kq v0 v6 v7 v9 v10 w' => ∃ (x0_1 : ByteArray) (x6_1 : List (S26)) (x7_1 : Int) (x9_1 : Int) (x10_1 : Int) (x221000_1 : Int) (x221001_1 : Int) (x221002_1 : Int) (x221003_1 : ByteArray), v0 = .string x0_1 ∧ v7 = .int .i64 x7_1 ∧ v9 = .int .i64 x9_1 ∧ v10 = .int .i64 x10_1 ∧ Aside0 (calamusref33_Scan.l0 kq x0_1 a1 x6_1 x7_1 x9_1 x10_1 x221000_1 x221001_1 x221002_1 x221003_1 = some (r1, r2)) ∧ Aside0 (kq ≤ k) ∧ Aside0 (Kd.R k26 26 w' w.heap.size (fun k_ => k_ ≠ gb220) v6 x6_1) ∧ Aside0 (w'.heap[gb220]? = some (.cells #[.int .i64 x221000_1, .int .i64 x221001_1, .int .i64 x221002_1, .string x221003_1] 26 (0, 0))) ∧ Aside0 (Below w.heap.size w w'))
 case atStart => exact ⟨(a0), (([] : List (S26))), (0), (t218), (t219), (t214), (t215), (t216), (t217), es_, es_, es_, es_, H', ⟨Nat.le_refl _⟩, ⟨by first | exact Kd.R_nil _ _ _ _ _ | exact Kd.N_nil _ _ _ _ _ | exact Kd.V_nil _ _ _ _ _ | exact Kd.Q_nil _ _ _ _ _ | exact Kd.S_nil _ _ _ _ _⟩, ⟨bp_ BK220.out⟩, ⟨hb_ HB⟩⟩
 case round =>
  clear H'
  try clear hcz6_0
  try clear hcz6_1
  try clear hcz6_2
  try clear hcz6_3
  try clear hfz6_0
  try clear hfz6_1
  try clear hfz6_2
  try clear hfz6_3
  obtain ⟨x0_1, x6_1, x7_1, x9_1, x10_1, x221000_1, x221001_1, x221002_1, x221003_1, rfl, rfl, rfl, rfl, HA, HK1, HO_6, BK220, HB⟩ := hrel
  cases gk with
  | zero => exact absurd HA.out (by simp [calamusref33_Scan.l0])
  | succ k1 =>
   have H := HA.out
   clear HA
   simp only [calamusref33_Scan.l0] at H
   by_cases c7 : x10_1 = 0
   ·rw [if_pos c7] at H
    have c7b0 : (x10_1 == 0) = true := beq_iff_eq.mpr c7
    have c7b1 : (x10_1 != 0) = false := bne_eq_false_iff_eq.mpr c7
    clear c7
    by_cases c8 : x221001_1 = a1
    ·rw [if_pos c8] at H
     have c8b0 : (x221001_1 == a1) = true := beq_iff_eq.mpr c8
     have c8b1 : (x221001_1 != a1) = false := bne_eq_false_iff_eq.mpr c8
     clear c8
     by_cases c9 : x221002_1 = (x6_1.length : Int)
     ·rw [if_pos c9] at H
      have c9b0 : (x221002_1 == (x6_1.length : Int)) = true := beq_iff_eq.mpr c9
      have c9b1 : (x221002_1 != (x6_1.length : Int)) = false := bne_eq_false_iff_eq.mpr c9
      clear c9
      by_cases c10 : x6_1.length < 3518437208883
      ·rw [if_pos c10] at H
       have LMc10 := Aside0.mk c10
       clear c10
       obtain ⟨y221, hy221⟩ : ∃ y_ : List (S26), y_ = (x6_1 ++ [(⟨x221000_1, x221001_1, x221002_1, x221003_1⟩ : S26)]) := ⟨_, rfl⟩
       replace H : (if 0 ≤ x9_1 then (if x9_1 ≤ (x0_1.size : Int) then ((calamusref33_Read.f k1 (x0_1.extract (x9_1 : Int).toNat x0_1.size)).bind fun bt224 => (calamusref33_Scan.l0 k1 (x0_1.extract (x9_1 : Int).toNat x0_1.size) a1 y221 (wrap64 (x7_1 + x9_1)) bt224.2.2.2.2.1 bt224.2.2.2.2.2 bt224.1 bt224.2.1 bt224.2.2.1 bt224.2.2.2.1)) else (none)) else (none)) = some (r1, r2) := th_ H hy221
       have Ny221 := Aside0.mk hy221
       clear hy221
       by_cases c11 : 0 ≤ x9_1
       ·rw [if_pos c11] at H
        have c11b0 := eq_true c11
        try (have c11b0x := c11b0; simp only [ByteArray.size_extract, Nat.min_self] at c11b0x)
        have c11b1 : decide (0 ≤ x9_1) = true := decide_eq_true c11
        clear c11
        by_cases c12 : x9_1 ≤ (x0_1.size : Int)
        ·rw [if_pos c12] at H
         have c12b0 := eq_true c12
         try (have c12b0x := c12b0; simp only [ByteArray.size_extract, Nat.min_self] at c12b0x)
         have c12b1 : decide (x9_1 ≤ (x0_1.size : Int)) = true := decide_eq_true c12
         clear c12
         replace H := Option.bind_eq_some_iff.mp H
         obtain ⟨⟨t224, t225, t226, t227, t228, t229⟩, A130, H⟩ := H
         replace H : (calamusref33_Scan.l0 k1 (x0_1.extract (x9_1 : Int).toNat x0_1.size) a1 y221 (wrap64 (x7_1 + x9_1)) t228 t229 t224 t225 t226 t227) = some (r1, r2) := H
         have A13 := Aside0.mk A130
         clear A130
         have H' := Aside0.mk H
         clear H
         obtain ⟨hcz14_0, hcz14_1, hcz14_2, hcz14_3, hfz14_0, hfz14_1, hfz14_2, hfz14_3⟩ := bc4_ BK220
         obtain ⟨Ao15, co15, eo15⟩ := Kd.R_slice HO_6.out
         subst eo15
         go_wp2_with (first | ((with_reducible refine gate_builtin (b := .append) (xs := #[.tmp 32, .tmp 34]) rfl ?_); (try (refine gate_guard (by rfl) ?_; dsimp only)); at_builtin; refine Kd.R_append k26 (w0 := w) w.heap.size rfl (.tmp 32) (.tmp 34) 48 26 (.agg #[(.int .i64 0), (.int .i64 0), (.int .i64 0), (.string ⟨#[]⟩)]) 40 rfl Try.underlying48 info26 rfl (by decide) (by omega) (.slice Ao15 x6_1.length co15) x6_1 (⟨x221000_1, x221001_1, x221002_1, x221003_1⟩ : S26) [.int .i64 x221000_1, .int .i64 x221001_1, .int .i64 x221002_1, .string x221003_1] (fun k_ => k_ ≠ gb220) (fun _ => False) rfl rfl ?aP (fun _ hk => hk.elim) ?aF ?aO ?aB ?aS ?aL ?_; (case aP => exact k26_mkM _ _ _ (⟨x221000_1, x221001_1, x221002_1, x221003_1⟩ : S26)); (case aB => exact (hb_ HB)); (case aF => exact (fun k_ hk => Kd.freshB (g := gb220) (o := .cells #[.int .i64 x221000_1, .int .i64 x221001_1, .int .i64 x221002_1, .string x221003_1] 26 (0, 0)) (bw_ BK220.out) k_ hk)); (case aO => exact (rw_ HO_6.out)); (case aS => exact (below_size (hb_ HB))); (case aL => have := LMc10.out; omega); intro v222 w16 ho hb hg hat; rw [← Ny221.out] at ho; have n0_ := Aside0.mk (blk_grown (g := gb220) (o := .cells #[.int .i64 x221000_1, .int .i64 x221001_1, .int .i64 x221002_1, .string x221003_1] 26 (0, 0)) (bw_ BK220.out) hg (Kd.R_away HO_6.out (fun _ hk => hk))); have n1_ := Aside0.mk (hb); have n2_ := Aside0.mk (ho); clear BK220; clear HB; clear HO_6; have BK220 := n0_; have HB := n1_; have HO223 := n2_; clear n0_ n1_ n2_; clear ho hb hg hat) | ((with_reducible refine gate_callee (f := 25) rfl ?_); refine ge_ (some 44) rfl rfl Try.func25 (by kernel_rfl) rfl #[.string (x0_1.extract (x9_1 : Int).toNat x0_1.size)] rfl (h := ?_); (with_reducible refine (calamusref33_Read.calls k1 (x0_1.extract (x9_1 : Int).toNat x0_1.size) t224 t225 t226 t227 t228 t229 _ A13.out).mono ?_); rintro e w17 ⟨rfl, hb⟩; refine ⟨_, rfl, ?_⟩; replace HO223 := Aside0.mk (Kd.R_below (rw_ HO223.out) hb); replace BK220 := bb_ BK220 hb; replace HB := bs_ HB hb; (try clear hb); (try clear hb2); (try clear hk); (try clear hi); obtain ⟨hcz18_0, hcz18_1, hcz18_2, hcz18_3, hfz18_0, hfz18_1, hfz18_2, hfz18_3⟩ := bc4_ BK220))
         go_roundg k1
         case measure => have := HK1.out; omega
         case rel => exact ⟨(x0_1.extract (x9_1 : Int).toNat x0_1.size), (y221), (wrap64 (x7_1 + x9_1)), (t228), (t229), (t224), (t225), (t226), (t227), es_, es_, es_, es_, H', ⟨by have := HK1.out; omega⟩, ⟨by (with_reducible repeat (first | apply Kd.R_alloc | apply Kd.R_drewN | apply Kd.R_drew)); exact Kd.R_mono (rf_ (Kd.R_mono HO223.out (fun k_ hk => (⟨hk, hk⟩ : _ ∧ k_ ≠ gb220))) (fun _ hk => hk.2)) (fun _ hk => hk.1)⟩, ⟨bp_ BK220.out⟩, ⟨hb_ HB⟩⟩
        ·rw [if_neg c12] at H
         exact absurd H (by simp)
       ·rw [if_neg c11] at H
        exact absurd H (by simp)
      ·rw [if_neg c10] at H
       exact absurd H (by simp)
     ·rw [if_neg c9] at H
      have c9b0 : (x221002_1 == (x6_1.length : Int)) = false := beq_eq_false_iff_ne.mpr c9
      have c9b1 : (x221002_1 != (x6_1.length : Int)) = true := bne_iff_ne.mpr c9
      simp only [Option.some.injEq, Prod.mk.injEq] at H
      obtain ⟨rfl, rfl⟩ := H
      obtain ⟨hcz19_0, hcz19_1, hcz19_2, hcz19_3, hfz19_0, hfz19_1, hfz19_2, hfz19_3⟩ := bc4_ BK220
      obtain ⟨Ao20, co20, eo20⟩ := Kd.R_slice HO_6.out
      subst eo20
      go_wp2
      go_ret2
      exact ⟨_, er_, by (with_reducible repeat (first | apply Kd.R_alloc | apply Kd.R_drewN | apply Kd.R_drew)); exact Kd.R_mono HO_6.out (fun _ hk => trivial), hb_ HB⟩
    ·rw [if_neg c8] at H
     have c8b0 : (x221001_1 == a1) = false := beq_eq_false_iff_ne.mpr c8
     have c8b1 : (x221001_1 != a1) = true := bne_iff_ne.mpr c8
     simp only [Option.some.injEq, Prod.mk.injEq] at H
     obtain ⟨rfl, rfl⟩ := H
     obtain ⟨hcz21_0, hcz21_1, hcz21_2, hcz21_3, hfz21_0, hfz21_1, hfz21_2, hfz21_3⟩ := bc4_ BK220
     go_wp2
     go_ret2
     exact ⟨_, er_, by (with_reducible repeat (first | apply Kd.R_alloc | apply Kd.R_drewN | apply Kd.R_drew)); exact Kd.R_mono HO_6.out (fun _ hk => trivial), hb_ HB⟩
   ·rw [if_neg c7] at H
    have c7b0 : (x10_1 == 0) = false := beq_eq_false_iff_ne.mpr c7
    have c7b1 : (x10_1 != 0) = true := bne_iff_ne.mpr c7
    simp only [Option.some.injEq, Prod.mk.injEq] at H
    obtain ⟨rfl, rfl⟩ := H
    go_wp2
    go_ret2
    exact ⟨_, er_, by (with_reducible repeat (first | apply Kd.R_alloc | apply Kd.R_drewN | apply Kd.R_drew)); exact Kd.R_mono HO_6.out (fun _ hk => trivial), hb_ HB⟩

/-! ### calamuslaw33_same: function 28 -/
def calamuslaw33_same.l0 : Nat → List (S24) → List (S24) → Int → Option (Bool)
 | 0, _, _, _ => none
 | k + 1, x0, x1, x5 => if x5 < (x0.length : Int) then (if 0 ≤ x5 then (if x5 < (x1.length : Int) then (if (!(((rd_T24 x0 x5).f0) == ((rd_T24 x1 x5).f0)) || (!(((rd_T24 x0 x5).f1) == ((rd_T24 x1 x5).f1)) || (!(((rd_T24 x0 x5).f2) == ((rd_T24 x1 x5).f2)) || (!((((rd_T24 x0 x5).f3).toList) == (((rd_T24 x1 x5).f3).toList)))))) = true then (some false) else (calamuslaw33_same.l0 k x0 x1 (wrap64 (x5 + 1)))) else (none)) else (none)) else (some true)
def calamuslaw33_same.f (k : Nat) (l0 : List (S24)) (l1 : List (S24)) : Option (Bool) := if (l0.length : Int) = (l1.length : Int) then (calamuslaw33_same.l0 k l0 l1 0) else (some false)
theorem calamuslaw33_same.mono_l : ∀ k, (∀ y0 y1 y2, LeO (calamuslaw33_same.l0 k y0 y1 y2) (calamuslaw33_same.l0 (k + 1) y0 y1 y2))
 | 0 => fun _ _ _ r h => by simp [calamuslaw33_same.l0] at h
 | k + 1 => by
  have ih0 := calamuslaw33_same.mono_l k
  ·intro y0 y1 y2
   unfold calamuslaw33_same.l0
   repeat' first
   | (with_reducible exact ih0 _ _ _)
   | (with_reducible exact LeO.refl _)
   | (with_reducible exact LeO.none _)
   | (with_reducible refine LeO.ite ?_ ?_)
   | (with_reducible refine LeO.bind ?_ (fun _ => ?_))
   | exact ih0 _ _ _
   | exact LeO.none _
   | refine LeO.ite ?_ ?_
   | refine LeO.bind ?_ (fun _ => ?_)
theorem calamuslaw33_same.mono : ∀ a0 a1 k, LeO (calamuslaw33_same.f k a0 a1) (calamuslaw33_same.f (k + 1) a0 a1) := by
 intro a0 a1 k
 have ih0 := calamuslaw33_same.mono_l k
 unfold calamuslaw33_same.f
 repeat' first
   | (with_reducible exact ih0 _ _ _)
   | (with_reducible exact LeO.refl _)
   | (with_reducible exact LeO.none _)
   | (with_reducible refine LeO.ite ?_ ?_)
   | (with_reducible refine LeO.bind ?_ (fun _ => ?_))
   | exact ih0 _ _ _
   | exact LeO.none _
   | refine LeO.ite ?_ ?_
   | refine LeO.bind ?_ (fun _ => ?_)
set_option maxHeartbeats 8000000 in
set_option maxRecDepth 100000 in
theorem calamuslaw33_same.calls (k : Nat) (A0 : Option Addr) (c0 : Nat) (l0 : List (S24)) (A1 : Option Addr) (c1 : Nat) (l1 : List (S24)) (r : Bool) (w : World) (hr0 : Kd.C k24 w A0 l0.length l0) (hc0 : l0.length ≤ c0) (hr1 : Kd.C k24 w A1 l1.length l1) (hc1 : l1.length ≤ c1) (h : calamuslaw33_same.f k l0 l1 = some r) :
  Calls Try.prog 28 #[.slice A0 l0.length c0, .slice A1 l1.length c1] w fun e w' => e = .returned (.bool r) ∧ Drawn0 w w' := by
 have hu24 := Try.underlying24
 have HR0 := Aside0.mk hr0
 have HC0 := Aside0.mk hc0
 clear hr0 hc0
 have HR1 := Aside0.mk hr1
 have HC1 := Aside0.mk hc1
 clear hr1 hc1
 have H : (if (l0.length : Int) = (l1.length : Int) then (calamuslaw33_same.l0 k l0 l1 0) else (some false)) = some r := h
 clear h
 by_cases c3 : (l0.length : Int) = (l1.length : Int)
 ·rw [if_pos c3] at H
  have c3b0 : ((l0.length : Int) == (l1.length : Int)) = true := beq_iff_eq.mpr c3
  have c3b1 : ((l0.length : Int) != (l1.length : Int)) = false := bne_eq_false_iff_eq.mpr c3
  have c3b2 : (l0.length == l1.length) = true := by first | simpa using c3 | (simp at c3 ⊢; omega)
  clear c3
  have H' := Aside0.mk H
  clear H
  go_enter Try.func28, Try.ntmps28
  go_wp2
  repeat (go_quiet (fail); try go_wp2)
  go_loopg [5] k (fun kq v5 w' => ∃ (x5_1 : Int), v5 = .int .i64 x5_1 ∧ Aside0 (calamuslaw33_same.l0 kq l0 l1 x5_1 = some r) ∧ Aside0 (kq ≤ k) ∧ Drawn0 w w')
  case atStart => exact ⟨(0), es_, H', ⟨Nat.le_refl _⟩, by repeat (first | exact Drawn0.refl _ | apply Drawn0.step)⟩
  case round =>
   clear H'
   try clear c3
   try clear c3b0
   try clear c3b1
   try clear c3b2
   obtain ⟨x5_1, rfl, HA, HK1, ⟨m1, rfl⟩⟩ := hrel
   cases gk with
   | zero => exact absurd HA.out (by simp [calamuslaw33_same.l0])
   | succ k1 =>
    have H := HA.out
    clear HA
    simp only [calamuslaw33_same.l0] at H
    by_cases c4 : x5_1 < (l0.length : Int)
    ·rw [if_pos c4] at H
     have c4b0 : decide (x5_1 < (l0.length : Int)) = true := decide_eq_true c4
     clear c4
     by_cases c5 : 0 ≤ x5_1
     ·rw [if_pos c5] at H
      have c5b0 : decide (0 ≤ x5_1) = true := decide_eq_true c5
      clear c5
      by_cases c6 : x5_1 < (l1.length : Int)
      ·rw [if_pos c6] at H
       have c6b0 : decide (x5_1 < (l1.length : Int)) = true := decide_eq_true c6
       clear c6
       by_cases c7 : (!(((rd_T24 l0 x5_1).f0) == ((rd_T24 l1 x5_1).f0)) || (!(((rd_T24 l0 x5_1).f1) == ((rd_T24 l1 x5_1).f1)) || (!(((rd_T24 l0 x5_1).f2) == ((rd_T24 l1 x5_1).f2)) || (!((((rd_T24 l0 x5_1).f3).toList) == (((rd_T24 l1 x5_1).f3).toList)))))) = true
       ·rw [if_pos c7] at H
        have c7b0 : (!(((rd_T24 l0 x5_1).f0) == ((rd_T24 l1 x5_1).f0)) || (!(((rd_T24 l0 x5_1).f1) == ((rd_T24 l1 x5_1).f1)) || (!(((rd_T24 l0 x5_1).f2) == ((rd_T24 l1 x5_1).f2)) || (!((((rd_T24 l0 x5_1).f3).toList) == (((rd_T24 l1 x5_1).f3).toList)))))) = true := c7
        clear c7
        obtain rfl := Option.some.inj H
        have p230 : 0 ≤ (x5_1 : Int) := of_decide_eq_true as_
        have q230 : x5_1 < (l0.length : Int) := of_decide_eq_true as_
        obtain ⟨ad230, e230, hx230_0, hx230_1, hx230_2, hx230_3⟩ := at_T24 HR0.out x5_1 p230 q230
        cases e230
        replace p230 := eq_true p230
        replace q230 := eq_true q230
        have p231 : 0 ≤ (x5_1 : Int) := of_decide_eq_true as_
        have q231 : x5_1 < (l1.length : Int) := of_decide_eq_true as_
        obtain ⟨ad231, e231, hx231_0, hx231_1, hx231_2, hx231_3⟩ := at_T24 HR1.out x5_1 p231 q231
        cases e231
        replace p231 := eq_true p231
        replace q231 := eq_true q231
        go_wp2
        repeat (go_quiet (fail); try go_wp2)
        go_ret
        exact ⟨by first | rfl | (simp; done) | (simp [*]; done), by repeat (first | exact Drawn0.refl _ | apply Drawn0.step)⟩
       ·rw [if_neg c7] at H
        have c7b0 : (!(((rd_T24 l0 x5_1).f0) == ((rd_T24 l1 x5_1).f0)) || (!(((rd_T24 l0 x5_1).f1) == ((rd_T24 l1 x5_1).f1)) || (!(((rd_T24 l0 x5_1).f2) == ((rd_T24 l1 x5_1).f2)) || (!((((rd_T24 l0 x5_1).f3).toList) == (((rd_T24 l1 x5_1).f3).toList)))))) = false := by simpa using c7
        clear c7
        have H' := Aside0.mk H
        clear H
        have p230 : 0 ≤ (x5_1 : Int) := of_decide_eq_true as_
        have q230 : x5_1 < (l0.length : Int) := of_decide_eq_true as_
        obtain ⟨ad230, e230, hx230_0, hx230_1, hx230_2, hx230_3⟩ := at_T24 HR0.out x5_1 p230 q230
        cases e230
        replace p230 := eq_true p230
        replace q230 := eq_true q230
        have p231 : 0 ≤ (x5_1 : Int) := of_decide_eq_true as_
        have q231 : x5_1 < (l1.length : Int) := of_decide_eq_true as_
        obtain ⟨ad231, e231, hx231_0, hx231_1, hx231_2, hx231_3⟩ := at_T24 HR1.out x5_1 p231 q231
        cases e231
        replace p231 := eq_true p231
        replace q231 := eq_true q231
        go_wp2
        repeat (go_quiet (fail); try go_wp2)
        go_roundg k1
        case measure => have := HK1.out; omega
        case rel => exact ⟨(wrap64 (x5_1 + 1)), es_, H', ⟨by have := HK1.out; omega⟩, by repeat (first | exact Drawn0.refl _ | apply Drawn0.step)⟩
      ·rw [if_neg c6] at H
       exact absurd H (by simp)
     ·rw [if_neg c5] at H
      exact absurd H (by simp)
    ·rw [if_neg c4] at H
     have c4b0 : decide (x5_1 < (l0.length : Int)) = false := decide_eq_false c4
     clear c4
     obtain rfl := Option.some.inj H
     go_wp2
     repeat (go_quiet (fail); try go_wp2)
     go_ret
     exact ⟨by first | rfl | (simp; done) | (simp [*]; done), by repeat (first | exact Drawn0.refl _ | apply Drawn0.step)⟩
 ·rw [if_neg c3] at H
  have c3b0 : ((l0.length : Int) == (l1.length : Int)) = false := beq_eq_false_iff_ne.mpr c3
  have c3b1 : ((l0.length : Int) != (l1.length : Int)) = true := bne_iff_ne.mpr c3
  have c3b2 : (l0.length == l1.length) = false := by first | simpa using c3 | (simp at c3 ⊢; omega)
  obtain rfl := Option.some.inj H
  go_enter Try.func28, Try.ntmps28
  go_wp2
  repeat (go_quiet (fail); try go_wp2)
  go_ret
  exact ⟨by first | rfl | (simp; done) | (simp [*]; done), by repeat (first | exact Drawn0.refl _ | apply Drawn0.step)⟩

/-! ### calamuslaw33_records: function 29 -/
def calamuslaw33_records.l0 : Nat → List (S26) → List (S24) → Int → Option ((List (S24)))
 | 0, _, _, _ => none
 | k + 1, x0, x3, x4 => if x4 < (x0.length : Int) then (if 0 ≤ x4 then (if x3.length < 3518437208883 then (calamuslaw33_records.l0 k x0 (x3 ++ [(⟨(rd_T26 x0 x4).f0, (rd_T26 x0 x4).f1, (rd_T26 x0 x4).f2, (rd_T26 x0 x4).f3⟩ : S24)]) (wrap64 (x4 + 1))) else (none)) else (none)) else (some x3)
def calamuslaw33_records.f (k : Nat) (l0 : List (S26)) : Option ((List (S24))) := calamuslaw33_records.l0 k l0 ([] : List (S24)) 0
theorem calamuslaw33_records.mono_l : ∀ k, (∀ y0 y1 y2, LeO (calamuslaw33_records.l0 k y0 y1 y2) (calamuslaw33_records.l0 (k + 1) y0 y1 y2))
 | 0 => fun _ _ _ r h => by simp [calamuslaw33_records.l0] at h
 | k + 1 => by
  have ih0 := calamuslaw33_records.mono_l k
  ·intro y0 y1 y2
   unfold calamuslaw33_records.l0
   repeat' first
   | (with_reducible exact ih0 _ _ _)
   | (with_reducible exact LeO.refl _)
   | (with_reducible exact LeO.none _)
   | (with_reducible refine LeO.ite ?_ ?_)
   | (with_reducible refine LeO.bind ?_ (fun _ => ?_))
   | exact ih0 _ _ _
   | exact LeO.none _
   | refine LeO.ite ?_ ?_
   | refine LeO.bind ?_ (fun _ => ?_)
theorem calamuslaw33_records.mono : ∀ a0 k, LeO (calamuslaw33_records.f k a0) (calamuslaw33_records.f (k + 1) a0) := by
 intro a0 k
 have ih0 := calamuslaw33_records.mono_l k
 unfold calamuslaw33_records.f
 repeat' first
   | (with_reducible exact ih0 _ _ _)
   | (with_reducible exact LeO.refl _)
   | (with_reducible exact LeO.none _)
   | (with_reducible refine LeO.ite ?_ ?_)
   | (with_reducible refine LeO.bind ?_ (fun _ => ?_))
   | exact ih0 _ _ _
   | exact LeO.none _
   | refine LeO.ite ?_ ?_
   | refine LeO.bind ?_ (fun _ => ?_)
set_option maxHeartbeats 8000000 in
set_option maxRecDepth 100000 in
theorem calamuslaw33_records.calls (k : Nat) (A0 : Option Addr) (c0 : Nat) (l0 : List (S26)) (r : List (S24)) (w : World) (hr0 : Kd.C k26 w A0 l0.length l0) (hc0 : l0.length ≤ c0) (h : calamuslaw33_records.f k l0 = some r) :
  Calls Try.prog 29 #[.slice A0 l0.length c0] w fun e w' => ∃ v0_ : Value, e = .returned (v0_) ∧ Kd.R k24 24 w' w.heap.size (fun _ => True) v0_ r ∧ Below w.heap.size w w' := by
 have hu26 := Try.underlying26
 have HR0 := Aside0.mk hr0
 have HC0 := Aside0.mk hc0
 clear hr0 hc0
 have HB := Aside0.mk (Below.refl w.heap.size w)
 have H : (calamuslaw33_records.l0 k l0 ([] : List (S24)) 0) = some r := h
 clear h
 have H' := Aside0.mk H
 clear H
 go_enter Try.func29, Try.ntmps29
 go_wp2
 go_loopg [3, 4] k (fun kq v3 v4 w' => ∃ (x3_1 : List (S24)) (x4_1 : Int), v4 = .int .i64 x4_1 ∧ Aside0 (calamuslaw33_records.l0 kq l0 x3_1 x4_1 = some r) ∧ Aside0 (kq ≤ k) ∧ Aside0 (Kd.R k24 24 w' w.heap.size (fun _ => True) v3 x3_1) ∧ Aside0 (Below w.heap.size w w'))
 case atStart => exact ⟨(([] : List (S24))), (0), es_, H', ⟨Nat.le_refl _⟩, ⟨by first | exact Kd.R_nil _ _ _ _ _ | exact Kd.N_nil _ _ _ _ _ | exact Kd.V_nil _ _ _ _ _ | exact Kd.Q_nil _ _ _ _ _ | exact Kd.S_nil _ _ _ _ _⟩, ⟨hb_ HB⟩⟩
 case round =>
  clear H'
  obtain ⟨x3_1, x4_1, rfl, HA, HK1, HO_3, HB⟩ := hrel
  cases gk with
  | zero => exact absurd HA.out (by simp [calamuslaw33_records.l0])
  | succ k1 =>
   have H := HA.out
   clear HA
   simp only [calamuslaw33_records.l0] at H
   by_cases c2 : x4_1 < (l0.length : Int)
   ·rw [if_pos c2] at H
    have c2b0 : decide (x4_1 < (l0.length : Int)) = true := decide_eq_true c2
    clear c2
    by_cases c3 : 0 ≤ x4_1
    ·rw [if_pos c3] at H
     have c3b0 : decide (0 ≤ x4_1) = true := decide_eq_true c3
     clear c3
     by_cases c4 : x3_1.length < 3518437208883
     ·rw [if_pos c4] at H
      have LMc4 := Aside0.mk c4
      clear c4
      obtain ⟨y233, hy233⟩ : ∃ y_ : List (S24), y_ = (x3_1 ++ [(⟨(rd_T26 l0 x4_1).f0, (rd_T26 l0 x4_1).f1, (rd_T26 l0 x4_1).f2, (rd_T26 l0 x4_1).f3⟩ : S24)]) := ⟨_, rfl⟩
      replace H : (calamuslaw33_records.l0 k1 l0 y233 (wrap64 (x4_1 + 1))) = some r := th_ H hy233
      have Ny233 := Aside0.mk hy233
      clear hy233
      have H' := Aside0.mk H
      clear H
      have p232 : 0 ≤ (x4_1 : Int) := of_decide_eq_true as_
      have q232 : x4_1 < (l0.length : Int) := of_decide_eq_true as_
      obtain ⟨ad232, e232, hx232_0, hx232_1, hx232_2, hx232_3⟩ := at_T26b HR0 HB x4_1 p232 q232
      cases e232
      replace p232 := eq_true p232
      replace q232 := eq_true q232
      go_wp2_with (first | ((with_reducible refine gate_builtin (b := .append) (xs := #[.tmp 11, .tmp 16]) rfl ?_); at_builtin; refine Kd.R_append k24 (w0 := w) w.heap.size rfl (.tmp 11) (.tmp 16) 45 24 (.agg #[(.int .i64 0), (.int .i64 0), (.int .i64 0), (.string ⟨#[]⟩)]) 40 rfl Try.underlying45 info24 rfl (by decide) (by omega) u3 x3_1 (⟨(rd_T26 l0 x4_1).f0, (rd_T26 l0 x4_1).f1, (rd_T26 l0 x4_1).f2, (rd_T26 l0 x4_1).f3⟩ : S24) [.int .i64 ((rd_T26 l0 x4_1).f0), .int .i64 ((rd_T26 l0 x4_1).f1), .int .i64 ((rd_T26 l0 x4_1).f2), .string ((rd_T26 l0 x4_1).f3)] (fun _ => True) (fun _ => False) rfl rfl ?aP (fun _ hk => hk.elim) ?aF ?aO ?aB ?aS ?aL ?_; (case aP => exact k24_mkM _ _ _ (⟨(rd_T26 l0 x4_1).f0, (rd_T26 l0 x4_1).f1, (rd_T26 l0 x4_1).f2, (rd_T26 l0 x4_1).f3⟩ : S24)); (case aB => exact (hb_ HB)); (case aF => exact (fun _ _ => trivial)); (case aO => exact (rw_ HO_3.out)); (case aS => exact (below_size (hb_ HB))); (case aL => have := LMc4.out; omega); intro v234 w5 ho hb hg hat; rw [← Ny233.out] at ho; have n0_ := Aside0.mk (hb); have n1_ := Aside0.mk (ho); clear HB; clear HO_3; have HB := n0_; have HO235 := n1_; clear n0_ n1_; clear ho hb hg hat))
      go_roundg k1
      case measure => have := HK1.out; omega
      case rel => exact ⟨(y233), (wrap64 (x4_1 + 1)), es_, H', ⟨by have := HK1.out; omega⟩, ⟨rw_ HO235.out⟩, ⟨hb_ HB⟩⟩
     ·rw [if_neg c4] at H
      exact absurd H (by simp)
    ·rw [if_neg c3] at H
     exact absurd H (by simp)
   ·rw [if_neg c2] at H
    have c2b0 : decide (x4_1 < (l0.length : Int)) = false := decide_eq_false c2
    clear c2
    obtain rfl := Option.some.inj H
    go_wp2
    go_ret
    exact ⟨_, er_, by (with_reducible repeat (first | apply Kd.R_alloc | apply Kd.R_drewN | apply Kd.R_drew)); exact HO_3.out, hb_ HB⟩

/-! ### calamuslaw33_RecordReads: function 6 -/
def calamuslaw33_RecordReads.f (k : Nat) (a0 : ByteArray) (a1 : Int) : Option (Bool) := (record_Read.f k a0).bind fun bt236 => ((calamusref33_Read.f k a0).bind fun bt243 => ((record_Scan.f k a0 a1).bind fun bt250 => ((calamusref33_Scan.f k a0 a1).bind fun bt254 => (if (bt236.1 == bt243.1 && (bt236.2.1 == bt243.2.1 && (bt236.2.2.1 == bt243.2.2.1 && (bt236.2.2.2.1.toList == bt243.2.2.2.1.toList)))) = true then (if bt236.2.2.2.2.1 = bt243.2.2.2.2.1 then (if bt236.2.2.2.2.2 = bt243.2.2.2.2.2 then ((calamuslaw33_records.f k bt254.1).bind fun t258 => ((calamuslaw33_same.f k bt250.1 t258).bind fun t261 => (if t261 = true then (if bt250.2 = bt254.2 then ((calamuslaw33_lives.f k).bind fun t262 => (some t262)) else (some false)) else (some false)))) else (some false)) else (some false)) else (some false)))))
theorem calamuslaw33_RecordReads.mono : ∀ a0 a1 k, LeO (calamuslaw33_RecordReads.f k a0 a1) (calamuslaw33_RecordReads.f (k + 1) a0 a1) := by
 intro a0 a1 k
 unfold calamuslaw33_RecordReads.f
 repeat' first
   | (with_reducible exact calamuslaw33_lives.mono _)
   | (with_reducible exact calamuslaw33_records.mono _ _)
   | (with_reducible exact calamuslaw33_same.mono _ _ _)
   | (with_reducible exact calamusref33_Read.mono _ _)
   | (with_reducible exact calamusref33_Scan.mono _ _ _)
   | (with_reducible exact record_Read.mono _ _)
   | (with_reducible exact record_Scan.mono _ _ _)
   | (with_reducible exact LeO.refl _)
   | (with_reducible exact LeO.none _)
   | (with_reducible refine LeO.ite ?_ ?_)
   | (with_reducible refine LeO.bind ?_ (fun _ => ?_))
   | exact calamuslaw33_lives.mono _
   | exact calamuslaw33_records.mono _ _
   | exact calamuslaw33_same.mono _ _ _
   | exact calamusref33_Read.mono _ _
   | exact calamusref33_Scan.mono _ _ _
   | exact record_Read.mono _ _
   | exact record_Scan.mono _ _ _
   | exact LeO.none _
   | refine LeO.ite ?_ ?_
   | refine LeO.bind ?_ (fun _ => ?_)
set_option maxHeartbeats 8000000 in
set_option maxRecDepth 100000 in
theorem calamuslaw33_RecordReads.calls (k : Nat) (a0 : ByteArray) (a1 : Int) (r : Bool) (w : World) (h : calamuslaw33_RecordReads.f k a0 a1 = some r) (hr_ : r = true := by rfl) :
  Calls Try.prog 6 #[.string a0, .int .i64 a1] w fun e w' => e = .returned (.bool r) ∧ Below w.heap.size w w' := by
 have hu24 := Try.underlying24
 have hu26 := Try.underlying26
 have HB := Aside0.mk (Below.refl w.heap.size w)
 have H : ((record_Read.f k a0).bind fun bt236 => ((calamusref33_Read.f k a0).bind fun bt243 => ((record_Scan.f k a0 a1).bind fun bt250 => ((calamusref33_Scan.f k a0 a1).bind fun bt254 => (if (bt236.1 == bt243.1 && (bt236.2.1 == bt243.2.1 && (bt236.2.2.1 == bt243.2.2.1 && (bt236.2.2.2.1.toList == bt243.2.2.2.1.toList)))) = true then (if bt236.2.2.2.2.1 = bt243.2.2.2.2.1 then (if bt236.2.2.2.2.2 = bt243.2.2.2.2.2 then ((calamuslaw33_records.f k bt254.1).bind fun t258 => ((calamuslaw33_same.f k bt250.1 t258).bind fun t261 => (if t261 = true then (if bt250.2 = bt254.2 then ((calamuslaw33_lives.f k).bind fun t262 => (some t262)) else (some false)) else (some false)))) else (some false)) else (some false)) else (some false)))))) = some r := h
 clear h
 replace H := Option.bind_eq_some_iff.mp H
 obtain ⟨⟨t236, t237, t238, t239, t240, t241⟩, A30, H⟩ := H
 replace H : ((calamusref33_Read.f k a0).bind fun bt243 => ((record_Scan.f k a0 a1).bind fun bt250 => ((calamusref33_Scan.f k a0 a1).bind fun bt254 => (if (t236 == bt243.1 && (t237 == bt243.2.1 && (t238 == bt243.2.2.1 && (t239.toList == bt243.2.2.2.1.toList)))) = true then (if t240 = bt243.2.2.2.2.1 then (if t241 = bt243.2.2.2.2.2 then ((calamuslaw33_records.f k bt254.1).bind fun t258 => ((calamuslaw33_same.f k bt250.1 t258).bind fun t261 => (if t261 = true then (if bt250.2 = bt254.2 then ((calamuslaw33_lives.f k).bind fun t262 => (some t262)) else (some false)) else (some false)))) else (some false)) else (some false)) else (some false))))) = some r := H
 have A3 := Aside0.mk A30
 clear A30
 replace H := Option.bind_eq_some_iff.mp H
 obtain ⟨⟨t243, t244, t245, t246, t247, t248⟩, A40, H⟩ := H
 replace H : ((record_Scan.f k a0 a1).bind fun bt250 => ((calamusref33_Scan.f k a0 a1).bind fun bt254 => (if (t236 == t243 && (t237 == t244 && (t238 == t245 && (t239.toList == t246.toList)))) = true then (if t240 = t247 then (if t241 = t248 then ((calamuslaw33_records.f k bt254.1).bind fun t258 => ((calamuslaw33_same.f k bt250.1 t258).bind fun t261 => (if t261 = true then (if bt250.2 = bt254.2 then ((calamuslaw33_lives.f k).bind fun t262 => (some t262)) else (some false)) else (some false)))) else (some false)) else (some false)) else (some false)))) = some r := H
 have A4 := Aside0.mk A40
 clear A40
 replace H := Option.bind_eq_some_iff.mp H
 obtain ⟨⟨t250, t251⟩, A50, H⟩ := H
 replace H : ((calamusref33_Scan.f k a0 a1).bind fun bt254 => (if (t236 == t243 && (t237 == t244 && (t238 == t245 && (t239.toList == t246.toList)))) = true then (if t240 = t247 then (if t241 = t248 then ((calamuslaw33_records.f k bt254.1).bind fun t258 => ((calamuslaw33_same.f k t250 t258).bind fun t261 => (if t261 = true then (if t251 = bt254.2 then ((calamuslaw33_lives.f k).bind fun t262 => (some t262)) else (some false)) else (some false)))) else (some false)) else (some false)) else (some false))) = some r := H
 have A5 := Aside0.mk A50
 clear A50
 replace H := Option.bind_eq_some_iff.mp H
 obtain ⟨⟨t254, t255⟩, A60, H⟩ := H
 replace H : (if (t236 == t243 && (t237 == t244 && (t238 == t245 && (t239.toList == t246.toList)))) = true then (if t240 = t247 then (if t241 = t248 then ((calamuslaw33_records.f k t254).bind fun t258 => ((calamuslaw33_same.f k t250 t258).bind fun t261 => (if t261 = true then (if t251 = t255 then ((calamuslaw33_lives.f k).bind fun t262 => (some t262)) else (some false)) else (some false)))) else (some false)) else (some false)) else (some false)) = some r := H
 have A6 := Aside0.mk A60
 clear A60
 by_cases c7 : (t236 == t243 && (t237 == t244 && (t238 == t245 && (t239.toList == t246.toList)))) = true
 ·rw [if_pos c7] at H
  have c7b0 : (t236 == t243 && (t237 == t244 && (t238 == t245 && (t239.toList == t246.toList)))) = true := c7
  (try (have c7b1 : decide (t236 = t243 && (t237 == t244 && (t238 == t245 && (t239.toList == t246.toList)))) = true := by simpa using c7))
  (try (have c7b2 : (t236 == t243 && (t237 == t244 && (t238 == t245 && (t239.toList == t246.toList)))) = true := by simpa using c7))
  clear c7
  by_cases c8 : t240 = t247
  ·rw [if_pos c8] at H
   have c8b0 : (t240 == t247) = true := beq_iff_eq.mpr c8
   have c8b1 : (t240 != t247) = false := bne_eq_false_iff_eq.mpr c8
   clear c8
   by_cases c9 : t241 = t248
   ·rw [if_pos c9] at H
    have c9b0 : (t241 == t248) = true := beq_iff_eq.mpr c9
    have c9b1 : (t241 != t248) = false := bne_eq_false_iff_eq.mpr c9
    clear c9
    replace H := Option.bind_eq_some_iff.mp H
    obtain ⟨t258, A100, H⟩ := H
    replace H : ((calamuslaw33_same.f k t250 t258).bind fun t261 => (if t261 = true then (if t251 = t255 then ((calamuslaw33_lives.f k).bind fun t262 => (some t262)) else (some false)) else (some false))) = some r := H
    have A10 := Aside0.mk A100
    clear A100
    replace H := Option.bind_eq_some_iff.mp H
    obtain ⟨t261, A110, H⟩ := H
    replace H : (if t261 = true then (if t251 = t255 then ((calamuslaw33_lives.f k).bind fun t262 => (some t262)) else (some false)) else (some false)) = some r := H
    have A11 := Aside0.mk A110
    clear A110
    by_cases c12 : t261 = true
    ·subst c12
     have H1 : (if t251 = t255 then ((calamuslaw33_lives.f k).bind fun t262 => (some t262)) else (some false)) = some r := by rw [if_pos rfl] at H; exact H
     clear H
     have H := H1
     clear H1
     by_cases c13 : t251 = t255
     ·rw [if_pos c13] at H
      have c13b0 : (t251 == t255) = true := beq_iff_eq.mpr c13
      have c13b1 : (t251 != t255) = false := bne_eq_false_iff_eq.mpr c13
      clear c13
      replace H := Option.bind_eq_some_iff.mp H
      obtain ⟨t262, A140, H⟩ := H
      replace H : (some t262) = some r := H
      have A14 := Aside0.mk A140
      clear A140
      obtain rfl := Option.some.inj H
      go_enter Try.func6, Try.ntmps6
      go_wp2_with (first | ((with_reducible refine gate_callee (f := 24) rfl ?_); refine ge_ (some 17) rfl rfl Try.func24 (by kernel_rfl) rfl #[.string a0] rfl (h := ?_); (with_reducible refine (record_Read.calls k a0 t236 t237 t238 t239 t240 t241 _ A3.out).mono ?_); rintro e w15 ⟨rfl, hb⟩; refine ⟨_, rfl, ?_⟩; replace HB := bs_ HB hb; (try clear hb); (try clear hb2); (try clear hk); (try clear hi)) | ((with_reducible refine gate_dst (N := 5) rfl ?_); refine be_ (N := 5) (cs := #[.int .i64 0, .int .i64 0, .int .i64 0, .string (⟨#[]⟩ : ByteArray)]) (t := 24) (h := ?_); intro gb242 hg w16 hbox hb; have BK242 := Aside0.mk (hbox); have GW242 := gw_ HB hg; have GE242 := gw_ HB hg; replace HB := bs_ HB hb; clear hb hbox hg; obtain ⟨hcz17_0, hcz17_1, hcz17_2, hcz17_3, hfz17_0, hfz17_1, hfz17_2, hfz17_3⟩ := bc4_ BK242) | ((with_reducible refine gate_callee (f := 25) rfl ?_); refine ge_ (some 23) rfl rfl Try.func25 (by kernel_rfl) rfl #[.string a0] rfl (h := ?_); (with_reducible refine (calamusref33_Read.calls k a0 t243 t244 t245 t246 t247 t248 _ A4.out).mono ?_); rintro e w18 ⟨rfl, hb⟩; refine ⟨_, rfl, ?_⟩; replace BK242 := Aside0.mk (blk_below (g := gb242) (o := .cells #[.int .i64 t236, .int .i64 t237, .int .i64 t238, .string t239] 24 (0, 0)) (bp_ BK242.out) hb); replace HB := bs_ HB hb; (try clear hb); (try clear hb2); (try clear hk); (try clear hi)) | ((with_reducible refine gate_dst (N := 8) rfl ?_); refine be_ (N := 8) (cs := #[.int .i64 0, .int .i64 0, .int .i64 0, .string (⟨#[]⟩ : ByteArray)]) (t := 26) (h := ?_); intro gb249 hg w19 hbox hb; have BK249 := Aside0.mk (hbox); have GW249 := gw_ HB hg; have GE249 := gw_ HB hg; have NB242_249 := ne_ BK242 hg; have NB249_242 := en_ BK242 hg; replace BK242 := bb_ BK242 hb; replace HB := bs_ HB hb; clear hb hbox hg; have hnb20 := NB249_242.out; have hnc20 := NB242_249.out; obtain ⟨hcz21_0, hcz21_1, hcz21_2, hcz21_3, hfz21_0, hfz21_1, hfz21_2, hfz21_3⟩ := bc4_ BK249) | ((with_reducible refine gate_callee (f := 26) rfl ?_); refine ge_ (some 30) rfl rfl Try.func26 (by kernel_rfl) rfl #[.string a0, .int .i64 a1] rfl (h := ?_); (with_reducible refine (record_Scan.calls k a0 a1 t250 t251 _ A5.out).mono ?_); rintro e w22 ⟨v252, rfl, ho0, hb⟩; refine ⟨_, rfl, ?_⟩; have HO253 := Aside0.mk (Kd.R_lower (Kd.R_newB ho0 (g := gb242) (o := .cells #[.int .i64 t236, .int .i64 t237, .int .i64 t238, .string t239] 24 (0, 0)) (bp_ BK242.out)) (below_size (hb_ HB))); replace BK242 := Aside0.mk (blk_below (g := gb242) (o := .cells #[.int .i64 t236, .int .i64 t237, .int .i64 t238, .string t239] 24 (0, 0)) (bp_ BK242.out) hb); replace BK249 := Aside0.mk (blk_below (g := gb249) (o := .cells #[.int .i64 t243, .int .i64 t244, .int .i64 t245, .string t246] 26 (0, 0)) (bp_ BK249.out) hb); replace HB := bs_ HB hb; (try clear hb); (try clear hb2); (try clear hk); (try clear hi); (try clear ho0)) | ((with_reducible refine gate_callee (f := 27) rfl ?_); refine ge_ (some 36) rfl rfl Try.func27 (by kernel_rfl) rfl #[.string a0, .int .i64 a1] rfl (h := ?_); (with_reducible refine (calamusref33_Scan.calls k a0 a1 t254 t255 _ A6.out).mono ?_); rintro e w23 ⟨v256, rfl, ho0, hb⟩; refine ⟨_, rfl, ?_⟩; have HO257 := Aside0.mk (Kd.R_lower (Kd.R_newB ho0 (g := gb249) (o := .cells #[.int .i64 t243, .int .i64 t244, .int .i64 t245, .string t246] 26 (0, 0)) (bw_ BK249.out)) (below_size (hb_ HB))); replace HO253 := Aside0.mk (Kd.R_below (rw_ HO253.out) hb); replace BK242 := bb_ BK242 hb; replace BK249 := bb_ BK249 hb; replace HB := bs_ HB hb; (try clear hb); (try clear hb2); (try clear hk); (try clear hi); (try clear ho0); obtain ⟨hcz24_0, hcz24_1, hcz24_2, hcz24_3, hfz24_0, hfz24_1, hfz24_2, hfz24_3⟩ := bc4_ BK242; obtain ⟨hcz25_0, hcz25_1, hcz25_2, hcz25_3, hfz25_0, hfz25_1, hfz25_2, hfz25_3⟩ := bc4_ BK249; obtain ⟨Ao26, co26, eo26⟩ := Kd.R_slice HO257.out; subst eo26) | (go_at_call 29; (with_reducible refine (calamuslaw33_records.calls k _ _ t254 t258 _ ?side1 ?side2 A10.out).mono ?_); (case side1 => repeat (first | exact (Kd.R_reads' HO257.out).2.2 | (with_reducible refine Kd.C_alloc ?_ _) | (with_reducible refine Kd.C_drewN ?_ _) | (with_reducible refine Kd.C_drew ?_))); (case side2 => exact (Kd.R_reads' HO257.out).2.1); rintro e w27 ⟨v259, rfl, ho0, hb⟩; have HO260 := Aside0.mk (Kd.R_lower (Kd.R_newB (Kd.R_new' ho0 (Kd.R_lt (rw_ HO253.out))) (g := gb242) (o := .cells #[.int .i64 t236, .int .i64 t237, .int .i64 t238, .string t239] 24 (0, 0)) (bw_ BK242.out)) (below_size (hb_ HB))); replace HO253 := Aside0.mk (Kd.R_elder' (rw_ HO253.out) (Kd.R_base ho0) hb); replace HO257 := Aside0.mk (Kd.R_below (rw_ HO257.out) hb); replace BK242 := bb_ BK242 hb; replace BK249 := bb_ BK249 hb; replace HB := bs_ HB hb; (try clear hb); (try clear hb2); (try clear hk); (try clear hi); (try clear ho0); obtain ⟨Ao28, co28, eo28⟩ := Kd.R_slice HO253.out; subst eo28; obtain ⟨Ao29, co29, eo29⟩ := Kd.R_slice HO260.out; subst eo29) | (go_at_call 28; (with_reducible refine (calamuslaw33_same.calls k _ _ t250 _ _ t258 true _ ?side1 ?side2 ?side3 ?side4 A11.out).mono ?_); (case side1 => repeat (first | exact (Kd.R_reads' HO253.out).2.2 | (with_reducible refine Kd.C_alloc ?_ _) | (with_reducible refine Kd.C_drewN ?_ _) | (with_reducible refine Kd.C_drew ?_))); (case side2 => exact (Kd.R_reads' HO253.out).2.1); (case side3 => repeat (first | exact (Kd.R_reads' HO260.out).2.2 | (with_reducible refine Kd.C_alloc ?_ _) | (with_reducible refine Kd.C_drewN ?_ _) | (with_reducible refine Kd.C_drew ?_))); (case side4 => exact (Kd.R_reads' HO260.out).2.1); rintro e w' ⟨rfl, ⟨nd, rfl⟩⟩) | (go_at_call 17; (with_reducible refine (calamuslaw33_lives.calls k  t262 _ A14.out).mono ?_); rintro e w30 ⟨rfl, hb⟩; replace HO253 := Aside0.mk (Kd.R_below (rw_ HO253.out) hb); replace HO257 := Aside0.mk (Kd.R_below (rw_ HO257.out) hb); replace HO260 := Aside0.mk (Kd.R_below (rw_ HO260.out) hb); replace BK242 := bb_ BK242 hb; replace BK249 := bb_ BK249 hb; replace HB := bs_ HB hb; (try clear hb); (try clear hb2); (try clear hk); (try clear hi)))
      go_ret
      exact ⟨er_, hb_ HB⟩
     ·rw [if_neg c13] at H
      have c13b0 : (t251 == t255) = false := beq_eq_false_iff_ne.mpr c13
      have c13b1 : (t251 != t255) = true := bne_iff_ne.mpr c13
      exact nf_ H hr_
    ·replace c12 := Bool.eq_false_iff.mpr c12
     subst c12
     have H1 : (some false) = some r := by rw [if_neg (show ¬ (false = true) by decide)] at H; exact H
     clear H
     have H := H1
     clear H1
     exact nf_ H hr_
   ·rw [if_neg c9] at H
    have c9b0 : (t241 == t248) = false := beq_eq_false_iff_ne.mpr c9
    have c9b1 : (t241 != t248) = true := bne_iff_ne.mpr c9
    exact nf_ H hr_
  ·rw [if_neg c8] at H
   have c8b0 : (t240 == t247) = false := beq_eq_false_iff_ne.mpr c8
   have c8b1 : (t240 != t247) = true := bne_iff_ne.mpr c8
   exact nf_ H hr_
 ·rw [if_neg c7] at H
  have c7b0 : (t236 == t243 && (t237 == t244 && (t238 == t245 && (t239.toList == t246.toList)))) = false := by simpa using c7
  (try (have c7b1 : decide (t236 = t243 && (t237 == t244 && (t238 == t245 && (t239.toList == t246.toList)))) = false := by simpa using c7))
  (try (have c7b2 : (t236 == t243 && (t237 == t244 && (t238 == t245 && (t239.toList == t246.toList)))) = false := by simpa using c7))
  (try (have c7b3 : ¬ (t236 = t243 && (t237 == t244 && (t238 == t245 && (t239.toList == t246.toList)))) := by simpa using c7))
  clear c7
  exact nf_ H hr_
/-- THE ONE PURE STATEMENT of calamuslaw33_RecordReads: yours. -/
def calamuslaw33_RecordReads.Pure : Prop := ∀ (a0 : ByteArray) (a1 : Int), a0.size ≤ 140737488351232 → (Lit.int .i64 a1).wf = true → ∃ k, calamuslaw33_RecordReads.f k a0 a1 = some true
theorem calamuslaw33_RecordReads.walk (P : calamuslaw33_RecordReads.Pure) (a0 : ByteArray) (a1 : Int) (w : World) (w0 : a0.size ≤ 140737488351232) (w1 : (Lit.int .i64 a1).wf = true) :
  Calls Try.prog 6 #[.string a0, .int .i64 a1] w fun e w' => e = .returned (.bool true) ∧ Below w.heap.size w w' := by
 obtain ⟨k, h⟩ := P a0 a1 w0 w1
 refine (calamuslaw33_RecordReads.calls k a0 a1 true w h).mono ?_
 rintro e w' ⟨rfl, hd⟩
 exact ⟨rfl, hd⟩

end Go.Proofs.Ytealbonfaebikaa.PRecordReads
