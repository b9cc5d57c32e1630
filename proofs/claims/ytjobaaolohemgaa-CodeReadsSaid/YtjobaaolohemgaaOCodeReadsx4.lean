/- Of the law calamus/calamuslaw01.CodeReads: each function as a plain Lean function, with a proof that the call comes to it; the row. By wip/tpl/own_print.py. Conditions: none but the row's own. -/
import Derived.Test.YtjobaaolohemgaaOCodeReadsx0
import Derived.Test.YtjobaaolohemgaaOCodeReadsx1
import Derived.Test.YtjobaaolohemgaaOCodeReadsx2
import Derived.Test.YtjobaaolohemgaaOCodeReadsx3
namespace Go.Proofs.Ytjobaaolohemgaa.PCodeReads
open Go.RowKit Go.Proofs.YtjobaaolohemgaaW.PrintWords Go.Proofs.YtjobaaolohemgaaW.PrintLast Go.Proofs.YtjobaaolohemgaaW.PrintMore
attribute [local go_sem] max2_int min2_int max_two min_two max_three min_three max_four min_four   -- for this text's walks alone
set_option linter.unusedVariables false
set_option linter.unusedSimpArgs false

/-! ### calamuslaw01_CodeReads: function 4 -/
mutual
def calamuslaw01_CodeReads.l0 : Nat → List (S36) → Int → ByteArray → Int → ByteArray → Int → Option (Bool)
 | 0, _, _, _, _, _, _ => none
 | k + 1, x1, x7, x174000, x174001, x175000, x175001 => if x7 < (x1.length : Int) then (if 0 ≤ x7 then (if ((rd_T36 x1 x7).f0) = 0 then ((code_Reader_Num.f x174000 x174001).bind fun bt177 => ((calamusref01_Reader_Num.f x175000 x175001).bind fun bt180 => (if bt177.1 = bt180.1 then (calamuslaw01_CodeReads.j1 k x1 x7 bt177.2.1 bt177.2.2 bt180.2.1 bt180.2.2) else (some false)))) else (if ((rd_T36 x1 x7).f0) = 1 then ((code_Reader_Text.f x174000 x174001 ((rd_T36 x1 x7).f1)).bind fun bt184 => ((calamusref01_Reader_Text.f x175000 x175001 ((rd_T36 x1 x7).f1)).bind fun bt188 => (if bt184.1.toList = bt188.1.toList then (calamuslaw01_CodeReads.j1 k x1 x7 bt184.2.1 bt184.2.2 bt188.2.1 bt188.2.2) else (some false)))) else ((code_Reader_Nums.f k x174000 x174001 ((rd_T36 x1 x7).f1)).bind fun bt192 => ((calamusref01_Reader_Nums.f k x175000 x175001 ((rd_T36 x1 x7).f1)).bind fun bt198 => ((calamusref01_Same.f k bt192.1 bt198.1).bind fun t203 => (if t203 = true then (calamuslaw01_CodeReads.j1 k x1 x7 bt192.2.1 bt192.2.2 bt198.2.1 bt198.2.2) else (some false))))))) else (none)) else ((calamuslaw01_lives.f k).bind fun t175 => (some t175))
def calamuslaw01_CodeReads.j1 : Nat → List (S36) → Int → ByteArray → Int → ByteArray → Int → Option (Bool)
 | 0, _, _, _, _, _, _ => none
 | k + 1, x1, x7, x174000, x174001, x175000, x175001 => (code_Reader_Left.f x174000 x174001).bind fun bt204 => (if bt204.1 = (x175000.size : Int) then ((code_Reader_Err.f bt204.2.1 bt204.2.2).bind fun bt207 => (if bt207.1 = x175001 then (calamuslaw01_CodeReads.l0 k x1 (wrap64 (x7 + 1)) bt207.2.1 bt207.2.2 x175000 x175001) else (some false))) else (some false))
end
def calamuslaw01_CodeReads.f (k : Nat) (a0 : ByteArray) (l1 : List (S36)) : Option (Bool) := if (l1.length : Int) > 200 then ((calamuslaw01_lives.f k).bind fun t170 => (some t170)) else ((code_NewReader.f a0).bind fun bt171 => (calamuslaw01_CodeReads.l0 k l1 0 bt171.1 bt171.2 a0 0))
theorem calamuslaw01_CodeReads.mono_l : ∀ k, (∀ y0 y1 y2 y3 y4 y5, LeO (calamuslaw01_CodeReads.l0 k y0 y1 y2 y3 y4 y5) (calamuslaw01_CodeReads.l0 (k + 1) y0 y1 y2 y3 y4 y5)) ∧ (∀ y0 y1 y2 y3 y4 y5, LeO (calamuslaw01_CodeReads.j1 k y0 y1 y2 y3 y4 y5) (calamuslaw01_CodeReads.j1 (k + 1) y0 y1 y2 y3 y4 y5))
 | 0 => ⟨fun _ _ _ _ _ _ r h => by simp [calamuslaw01_CodeReads.l0] at h, fun _ _ _ _ _ _ r h => by simp [calamuslaw01_CodeReads.j1] at h⟩
 | k + 1 => by
  obtain ⟨ih0, ih1⟩ := calamuslaw01_CodeReads.mono_l k
  refine ⟨?_, ?_⟩
  ·intro y0 y1 y2 y3 y4 y5
   unfold calamuslaw01_CodeReads.l0
   repeat' first
   | (with_reducible exact ih0 _ _ _ _ _ _)
   | (with_reducible exact ih1 _ _ _ _ _ _)
   | (with_reducible exact calamuslaw01_lives.mono _)
   | (with_reducible exact calamusref01_Reader_Nums.mono _ _ _ _)
   | (with_reducible exact calamusref01_Same.mono _ _ _)
   | (with_reducible exact code_Reader_Nums.mono _ _ _ _)
   | (with_reducible exact LeO.refl _)
   | (with_reducible exact LeO.none _)
   | (with_reducible refine LeO.ite ?_ ?_)
   | (with_reducible refine LeO.bind ?_ (fun _ => ?_))
   | exact ih0 _ _ _ _ _ _
   | exact ih1 _ _ _ _ _ _
   | exact calamuslaw01_lives.mono _
   | exact calamusref01_Reader_Nums.mono _ _ _ _
   | exact calamusref01_Same.mono _ _ _
   | exact code_Reader_Nums.mono _ _ _ _
   | exact LeO.none _
   | refine LeO.ite ?_ ?_
   | refine LeO.bind ?_ (fun _ => ?_)
  ·intro y0 y1 y2 y3 y4 y5
   unfold calamuslaw01_CodeReads.j1
   repeat' first
   | (with_reducible exact ih0 _ _ _ _ _ _)
   | (with_reducible exact ih1 _ _ _ _ _ _)
   | (with_reducible exact calamuslaw01_lives.mono _)
   | (with_reducible exact calamusref01_Reader_Nums.mono _ _ _ _)
   | (with_reducible exact calamusref01_Same.mono _ _ _)
   | (with_reducible exact code_Reader_Nums.mono _ _ _ _)
   | (with_reducible exact LeO.refl _)
   | (with_reducible exact LeO.none _)
   | (with_reducible refine LeO.ite ?_ ?_)
   | (with_reducible refine LeO.bind ?_ (fun _ => ?_))
   | exact ih0 _ _ _ _ _ _
   | exact ih1 _ _ _ _ _ _
   | exact calamuslaw01_lives.mono _
   | exact calamusref01_Reader_Nums.mono _ _ _ _
   | exact calamusref01_Same.mono _ _ _
   | exact code_Reader_Nums.mono _ _ _ _
   | exact LeO.none _
   | refine LeO.ite ?_ ?_
   | refine LeO.bind ?_ (fun _ => ?_)
theorem calamuslaw01_CodeReads.mono : ∀ a0 a1 k, LeO (calamuslaw01_CodeReads.f k a0 a1) (calamuslaw01_CodeReads.f (k + 1) a0 a1) := by
 intro a0 a1 k
 obtain ⟨ih0, ih1⟩ := calamuslaw01_CodeReads.mono_l k
 unfold calamuslaw01_CodeReads.f
 repeat' first
   | (with_reducible exact ih0 _ _ _ _ _ _)
   | (with_reducible exact ih1 _ _ _ _ _ _)
   | (with_reducible exact calamuslaw01_lives.mono _)
   | (with_reducible exact calamusref01_Reader_Nums.mono _ _ _ _)
   | (with_reducible exact calamusref01_Same.mono _ _ _)
   | (with_reducible exact code_Reader_Nums.mono _ _ _ _)
   | (with_reducible exact LeO.refl _)
   | (with_reducible exact LeO.none _)
   | (with_reducible refine LeO.ite ?_ ?_)
   | (with_reducible refine LeO.bind ?_ (fun _ => ?_))
   | exact ih0 _ _ _ _ _ _
   | exact ih1 _ _ _ _ _ _
   | exact calamuslaw01_lives.mono _
   | exact calamusref01_Reader_Nums.mono _ _ _ _
   | exact calamusref01_Same.mono _ _ _
   | exact code_Reader_Nums.mono _ _ _ _
   | exact LeO.none _
   | refine LeO.ite ?_ ?_
   | refine LeO.bind ?_ (fun _ => ?_)
def calamuslaw01_CodeReads.T9 : Bool × List (List Nat × List Nat) := (true, [([], []), ([], []), ([], []), ([1, 2], [1, 2]), ([3], [3]), ([4], [4]), ([0, 5], [0, 5]), ([], []), ([], []), ([], []), ([8, 9], [8, 9]), ([10], [10]), ([11], [11]), ([7, 12, 6], [7, 12]), ([6, 13, 13], [6, 13]), ([14], [14])])
def calamuslaw01_CodeReads.B9 : List Nat := [0, 0, 0, 6, 14, 30, 63, 0, 0, 0, 768, 1792, 3840, 8191, 16383, 32767]
theorem calamuslaw01_CodeReads.tab9 : rtab .any (opsOf Try.f4 9) = calamuslaw01_CodeReads.T9 := by kernel_rfl
theorem calamuslaw01_CodeReads.bits9 : waitsOk calamuslaw01_CodeReads.T9.2 calamuslaw01_CodeReads.B9 = true := by kernel_rfl
def calamuslaw01_CodeReads.T15 : Bool × List (List Nat × List Nat) := (true, [([], []), ([], []), ([], []), ([1, 2], [1, 2]), ([3], [3]), ([4], [4]), ([0, 5], [0, 5]), ([], []), ([], []), ([], []), ([8, 9], [8, 9]), ([10], [10]), ([11], [11]), ([7, 12, 6], [7, 12]), ([6, 13], [6, 13])])
def calamuslaw01_CodeReads.B15 : List Nat := [0, 0, 0, 6, 14, 30, 63, 0, 0, 0, 768, 1792, 3840, 8191, 16383]
theorem calamuslaw01_CodeReads.tab15 : rtab .any (opsOf Try.f4 15) = calamuslaw01_CodeReads.T15 := by kernel_rfl
theorem calamuslaw01_CodeReads.bits15 : waitsOk calamuslaw01_CodeReads.T15.2 calamuslaw01_CodeReads.B15 = true := by kernel_rfl
def calamuslaw01_CodeReads.T17 : Bool × List (List Nat × List Nat) := (true, [([], []), ([0], [0]), ([], []), ([2], [2]), ([3], [3]), ([4], [4]), ([5], [5]), ([1, 6], [1, 6]), ([7, 1], [7]), ([8], [8]), ([9, 8, 8], [8, 9]), ([8], [8]), ([11, 8], [8, 11]), ([12, 8], [8, 12]), ([13, 8], [8, 13]), ([10, 14, 8], [8, 10, 14]), ([8, 15], [8, 15])])
def calamuslaw01_CodeReads.B17 : List Nat := [0, 1, 0, 4, 12, 28, 60, 127, 255, 511, 1023, 511, 2559, 6655, 14847, 32767, 65535]
theorem calamuslaw01_CodeReads.tab17 : rtab .any (opsOf Try.f4 17) = calamuslaw01_CodeReads.T17 := by kernel_rfl
theorem calamuslaw01_CodeReads.bits17 : waitsOk calamuslaw01_CodeReads.T17.2 calamuslaw01_CodeReads.B17 = true := by kernel_rfl
set_option maxHeartbeats 8000000 in
set_option maxRecDepth 100000 in
theorem calamuslaw01_CodeReads.calls (k : Nat) (a0 : ByteArray) (A1 : Option Addr) (c1 : Nat) (l1 : List (S36)) (r : Bool) (w : World) (hr1 : Kd.C k36 w A1 l1.length l1) (hc1 : l1.length ≤ c1) (h : calamuslaw01_CodeReads.f k a0 l1 = some r) (hr_ : r = true := by rfl) :
  Calls Try.prog 4 #[.string a0, .slice A1 l1.length c1] w fun e w' => e = .returned (.bool r) ∧ Below w.heap.size w w' := by
 have hu34 := Try.underlying34
 have HR1 := Aside0.mk hr1
 have HC1 := Aside0.mk hc1
 clear hr1 hc1
 have HB := Aside0.mk (Below.refl w.heap.size w)
 have H : (if (l1.length : Int) > 200 then ((calamuslaw01_lives.f k).bind fun t170 => (some t170)) else ((code_NewReader.f a0).bind fun bt171 => (calamuslaw01_CodeReads.l0 k l1 0 bt171.1 bt171.2 a0 0))) = some r := h
 clear h
 by_cases c3 : (l1.length : Int) > 200
 ·rw [if_pos c3] at H
  have c3b0 : decide (200 < (l1.length : Int)) = true := decide_eq_true c3
  have c3b1 : decide (200 < l1.length) = true := decide_eq_true (by omega)
  clear c3
  replace H := Option.bind_eq_some_iff.mp H
  obtain ⟨t170, A40, H⟩ := H
  replace H : (some t170) = some r := H
  have A4 := Aside0.mk A40
  clear A40
  obtain rfl := Option.some.inj H
  go_enter Try.func4, Try.ntmps4
  go_wp2_with (first | ((with_reducible refine gate_callee (f := 20) rfl ?_); refine ge_ (some 11) rfl rfl Try.func20 (by kernel_rfl) rfl #[] rfl (h := ?_); (with_reducible refine (calamuslaw01_lives.calls k  t170 _ A4.out).mono ?_); rintro e w5 ⟨rfl, hb⟩; refine ⟨_, rfl, ?_⟩; replace HB := bs_ HB hb; (try clear hb); (try clear hb2); (try clear hk); (try clear hi)))
  go_ret
  exact ⟨er_, hb_ HB⟩
 ·rw [if_neg c3] at H
  have c3b0 : decide (200 < (l1.length : Int)) = false := decide_eq_false c3
  have c3b1 : decide (200 < l1.length) = false := decide_eq_false (by omega)
  clear c3
  replace H := Option.bind_eq_some_iff.mp H
  obtain ⟨⟨t171, t172⟩, A60, H⟩ := H
  replace H : (calamuslaw01_CodeReads.l0 k l1 0 t171 t172 a0 0) = some r := H
  have A6 := Aside0.mk A60
  clear A60
  have H' := Aside0.mk H
  clear H
  go_enter Try.func4, Try.ntmps4
  go_wp2_with (first | ((with_reducible refine gate_callee (f := 21) rfl ?_); refine ge_ (some 13) rfl rfl Try.func21 (by kernel_rfl) rfl #[.string a0] rfl (h := ?_); (with_reducible refine (code_NewReader.calls a0 t171 t172 w _ ?side1 A6.out).mono ?_); (case side1 => repeat (first | (with_reducible first | exact HB.out | apply below_alloc | apply pw_below_drewN | apply below_drew1) | exact HB.out)); rintro e w7 ⟨g173, rfl, hi, hb, hb2⟩; refine ⟨_, rfl, ?_⟩; have HI173 := Aside0.mk (hi); replace HB := Aside0.mk (hb); (try clear hb); (try clear hb2); (try clear hk); (try clear hi)) | ((with_reducible refine gate_dst (N := 16) rfl ?_); refine be_ (N := 16) (cs := #[.string a0, .int .i64 0]) (t := 34) (h := ?_); intro gb174 hg w8 hbox hb; have HI174 := Aside0.mk ((⟨hbox, (by rw [hg]; exact (below_size (by repeat (first | (with_reducible first | exact HB.out | apply below_alloc | apply pw_below_drewN | apply below_drew1 | refine below_set ?_ (IsS45.ge HI173.out)) | exact HB.out))) : w.heap.size ≤ gb174)⟩ : IsS34 w w8 gb174 a0 0)); have GW174 := Aside0.mk ((by rw [hg]; exact (below_size (by repeat (first | (with_reducible first | exact HB.out | apply below_alloc | apply pw_below_drewN | apply below_drew1 | refine below_set ?_ (IsS45.ge HI173.out)) | exact HB.out))) : w.heap.size ≤ gb174)); have GE174 := Aside0.mk ((by rw [hg]; exact (below_size (by repeat (first | (with_reducible first | exact HB.out | apply below_alloc | apply pw_below_drewN | apply below_drew1 | refine below_set ?_ (IsS45.ge HI173.out)) | exact HB.out))) : w.heap.size ≤ gb174)); have NB173_174 := Aside0.mk ((by rw [hg]; exact Nat.ne_of_lt (IsS45.lt (show IsS45 w _ g173 t171 t172 from by repeat (first | (with_reducible first | exact HI173.out | apply IsS45.alloc | apply IsS45.drewN | apply IsS45.drew | apply IsS45.set_0 | apply IsS45.set_1) | exact HI173.out))) : g173 ≠ gb174)); have NB174_173 := Aside0.mk ((by rw [hg]; exact Nat.ne_of_gt (IsS45.lt (show IsS45 w _ g173 t171 t172 from by repeat (first | (with_reducible first | exact HI173.out | apply IsS45.alloc | apply IsS45.drewN | apply IsS45.drew | apply IsS45.set_0 | apply IsS45.set_1) | exact HI173.out))) : gb174 ≠ g173)); replace HB := Aside0.mk (below_step (by repeat (first | (with_reducible first | exact HB.out | apply below_alloc | apply pw_below_drewN | apply below_drew1 | refine below_set ?_ (IsS45.ge HI173.out)) | exact HB.out)) hb); replace HI173 := Aside0.mk (IsS45.below (by repeat (first | (with_reducible first | exact HI173.out | apply IsS45.alloc | apply IsS45.drewN | apply IsS45.drew | apply IsS45.set_0 | apply IsS45.set_1) | exact HI173.out)) hb); clear hb hbox hg))
  go_loopg [7] k (fun kq v7 w' => ∃ (x7_1 : Int) (x174000_1 : ByteArray) (x174001_1 : Int) (x175000_1 : ByteArray) (x175001_1 : Int), v7 = .int .i64 x7_1 ∧ Aside0 (calamuslaw01_CodeReads.l0 kq l1 x7_1 x174000_1 x174001_1 x175000_1 x175001_1 = some r) ∧ Aside0 (kq ≤ k) ∧ Aside0 (IsS45 w w' g173 x174000_1 x174001_1) ∧ Aside0 (IsS34 w w' gb174 x175000_1 x175001_1) ∧ Aside0 (Below w.heap.size w w'))
  case atStart => exact ⟨(0), (t171), (t172), (a0), (0), es_, H', ⟨Nat.le_refl _⟩, ⟨by repeat (first | (with_reducible first | exact HI173.out | apply IsS45.alloc | apply IsS45.drewN | apply IsS45.drew | apply IsS45.set_0 | apply IsS45.set_1 | refine IsS45.far ?_ NB173_174.out _) | exact HI173.out)⟩, ⟨by repeat (first | (with_reducible first | exact HI174.out | apply IsS34.alloc | apply IsS34.drewN | apply IsS34.drew | apply IsS34.set_0 | apply IsS34.set_1 | refine IsS34.far ?_ NB174_173.out _) | exact HI174.out)⟩, ⟨by repeat (first | (with_reducible first | exact HB.out | apply below_alloc | apply pw_below_drewN | apply below_drew1 | refine below_set ?_ (IsS45.ge HI173.out) | refine below_set ?_ (IsS34.ge HI174.out)) | exact HB.out)⟩⟩
  case round =>
   clear H'
   try clear c3
   try clear c3b0
   try clear c3b1
   obtain ⟨x7_1, x174000_1, x174001_1, x175000_1, x175001_1, rfl, HA, HK1, HI173, HI174, HB⟩ := hrel
   cases gk with
   | zero => exact absurd HA.out (by simp [calamuslaw01_CodeReads.l0])
   | succ k1 =>
    have H := HA.out
    clear HA
    simp only [calamuslaw01_CodeReads.l0] at H
    by_cases c9 : x7_1 < (l1.length : Int)
    ·rw [if_pos c9] at H
     have c9b0 : decide (x7_1 < (l1.length : Int)) = true := decide_eq_true c9
     clear c9
     by_cases c10 : 0 ≤ x7_1
     ·rw [if_pos c10] at H
      have c10b0 : decide (0 ≤ x7_1) = true := decide_eq_true c10
      clear c10
      have HC11 := Aside0.mk H
      clear H
      have p176 : 0 ≤ (x7_1 : Int) := of_decide_eq_true as_
      have q176 : x7_1 < (l1.length : Int) := of_decide_eq_true as_
      obtain ⟨ad176, e176, hx176_0, hx176_1⟩ := at_T36b HR1 HB x7_1 p176 q176
      cases e176
      replace p176 := eq_true p176
      replace q176 := eq_true q176
      go_upto_block 2 with (fail)
      go_cut [] (fun wc => ∃ (kq : Nat) (x174000_10 : ByteArray) (x174001_10 : Int) (x175000_10 : ByteArray) (x175001_10 : Int), Aside0 (calamuslaw01_CodeReads.j1 kq l1 x7_1 x174000_10 x174001_10 x175000_10 x175001_10 = some r) ∧ Aside0 (kq ≤ k1) ∧ Aside0 (IsS45 w wc g173 x174000_10 x174001_10) ∧ Aside0 (IsS34 w wc gb174 x175000_10 x175001_10) ∧ Aside0 (Below w.heap.size w wc))
      case first =>
       have H := HC11.out
       clear HC11
       by_cases c12 : ((rd_T36 l1 x7_1).f0) = 0
       ·rw [if_pos c12] at H
        have c12b0 : (((rd_T36 l1 x7_1).f0) == 0) = true := beq_iff_eq.mpr c12
        have c12b1 : (((rd_T36 l1 x7_1).f0) != 0) = false := bne_eq_false_iff_eq.mpr c12
        clear c12
        (first | rw [c12b0] | (simp only [i64_w, i32_w]; rw [c12b0]) | skip)
        replace H := Option.bind_eq_some_iff.mp H
        obtain ⟨⟨t177, t178, t179⟩, A130, H⟩ := H
        replace H : ((calamusref01_Reader_Num.f x175000_1 x175001_1).bind fun bt180 => (if t177 = bt180.1 then (calamuslaw01_CodeReads.j1 k1 l1 x7_1 t178 t179 bt180.2.1 bt180.2.2) else (some false))) = some r := H
        have A13 := Aside0.mk A130
        clear A130
        replace H := Option.bind_eq_some_iff.mp H
        obtain ⟨⟨t180, t181, t182⟩, A140, H⟩ := H
        replace H : (if t177 = t180 then (calamuslaw01_CodeReads.j1 k1 l1 x7_1 t178 t179 t181 t182) else (some false)) = some r := H
        have A14 := Aside0.mk A140
        clear A140
        by_cases c15 : t177 = t180
        ·rw [if_pos c15] at H
         have c15b0 : (t177 == t180) = true := beq_iff_eq.mpr c15
         have c15b1 : (t177 != t180) = false := bne_eq_false_iff_eq.mpr c15
         clear c15
         have H' := Aside0.mk H
         clear H
         go_wp2_with (first | ((with_reducible refine gate_callee (f := 22) rfl ?_); refine ge_ (some 47) rfl rfl Try.func22 (by kernel_rfl) rfl #[.pointer (some ⟨g173, 0, none⟩)] rfl (h := ?_); (with_reducible refine (code_Reader_Num.calls g173 x174000_1 x174001_1 t177 t178 t179 w _ ?side1 ?side2 A13.out).mono ?_); (case side1 => repeat (first | (with_reducible first | exact HI173.out | apply IsS45.alloc | apply IsS45.drewN | apply IsS45.drew | apply IsS45.set_0 | apply IsS45.set_1 | refine IsS45.far ?_ NB173_174.out _) | exact HI173.out)); (case side2 => repeat (first | (with_reducible first | exact HB.out | apply below_alloc | apply pw_below_drewN | apply below_drew1 | refine below_set ?_ (IsS45.ge HI173.out) | refine below_set ?_ (IsS34.ge HI174.out)) | exact HB.out)); rintro e w16 ⟨rfl, hi, hb, hk⟩; refine ⟨_, rfl, ?_⟩; replace HI174 := Aside0.mk ((⟨KeepBut.blk hk (g' := gb174) (show IsS34 w _ gb174 x175000_1 x175001_1 from by repeat (first | (with_reducible first | exact HI174.out | apply IsS34.alloc | apply IsS34.drewN | apply IsS34.drew | apply IsS34.set_0 | apply IsS34.set_1 | refine IsS34.far ?_ NB174_173.out _) | exact HI174.out)).1 NB174_173.out (by simp), (IsS34.ge HI174.out)⟩ : IsS34 w w16 gb174 x175000_1 x175001_1)); replace HB := Aside0.mk (hb); replace HI173 := Aside0.mk (hi); (try clear hb); (try clear hb2); (try clear hk); (try clear hi)) | ((with_reducible refine gate_callee (f := 23) rfl ?_); refine ge_ (some 49) rfl rfl Try.func23 (by kernel_rfl) rfl #[.pointer (some ⟨gb174, 0, none⟩)] rfl (h := ?_); (with_reducible refine (calamusref01_Reader_Num.calls gb174 x175000_1 x175001_1 t180 t181 t182 w _ ?side1 ?side2 A14.out).mono ?_); (case side1 => repeat (first | (with_reducible first | exact HI174.out | apply IsS34.alloc | apply IsS34.drewN | apply IsS34.drew | apply IsS34.set_0 | apply IsS34.set_1 | refine IsS34.far ?_ NB174_173.out _) | exact HI174.out)); (case side2 => repeat (first | (with_reducible first | exact HB.out | apply below_alloc | apply pw_below_drewN | apply below_drew1 | refine below_set ?_ (IsS45.ge HI173.out) | refine below_set ?_ (IsS34.ge HI174.out)) | exact HB.out)); rintro e w17 ⟨rfl, hi, hb, hk⟩; refine ⟨_, rfl, ?_⟩; replace HI173 := Aside0.mk ((⟨KeepBut.blk hk (g' := g173) (show IsS45 w _ g173 t178 t179 from by repeat (first | (with_reducible first | exact HI173.out | apply IsS45.alloc | apply IsS45.drewN | apply IsS45.drew | apply IsS45.set_0 | apply IsS45.set_1 | refine IsS45.far ?_ NB173_174.out _) | exact HI173.out)).1 NB173_174.out (by simp), (IsS45.ge HI173.out)⟩ : IsS45 w w17 g173 t178 t179)); replace HB := Aside0.mk (hb); replace HI174 := Aside0.mk (hi); (try clear hb); (try clear hb2); (try clear hk); (try clear hi)))
         go_meet
         case rel => exact ⟨_, (t178), (t179), (t181), (t182), H', ⟨by have := HK1.out; first | omega | exact Nat.le_refl _⟩, ⟨by repeat (first | (with_reducible first | exact HI173.out | apply IsS45.alloc | apply IsS45.drewN | apply IsS45.drew | apply IsS45.set_0 | apply IsS45.set_1 | refine IsS45.far ?_ NB173_174.out _) | exact HI173.out)⟩, ⟨by repeat (first | (with_reducible first | exact HI174.out | apply IsS34.alloc | apply IsS34.drewN | apply IsS34.drew | apply IsS34.set_0 | apply IsS34.set_1 | refine IsS34.far ?_ NB174_173.out _) | exact HI174.out)⟩, ⟨by repeat (first | (with_reducible first | exact HB.out | apply below_alloc | apply pw_below_drewN | apply below_drew1 | refine below_set ?_ (IsS45.ge HI173.out) | refine below_set ?_ (IsS34.ge HI174.out)) | exact HB.out)⟩⟩
        ·rw [if_neg c15] at H
         have c15b0 : (t177 == t180) = false := beq_eq_false_iff_ne.mpr c15
         have c15b1 : (t177 != t180) = true := bne_iff_ne.mpr c15
         exact nf_ H hr_
       ·rw [if_neg c12] at H
        have c12b0 : (((rd_T36 l1 x7_1).f0) == 0) = false := beq_eq_false_iff_ne.mpr c12
        have c12b1 : (((rd_T36 l1 x7_1).f0) != 0) = true := bne_iff_ne.mpr c12
        (first | rw [c12b0] | (simp only [i64_w, i32_w]; rw [c12b0]) | skip)
        by_cases c20 : ((rd_T36 l1 x7_1).f0) = 1
        ·rw [if_pos c20] at H
         have c20b0 : (((rd_T36 l1 x7_1).f0) == 1) = true := beq_iff_eq.mpr c20
         have c20b1 : (((rd_T36 l1 x7_1).f0) != 1) = false := bne_eq_false_iff_eq.mpr c20
         clear c20
         replace H := Option.bind_eq_some_iff.mp H
         obtain ⟨⟨t184, t185, t186⟩, A210, H⟩ := H
         replace H : ((calamusref01_Reader_Text.f x175000_1 x175001_1 ((rd_T36 l1 x7_1).f1)).bind fun bt188 => (if t184.toList = bt188.1.toList then (calamuslaw01_CodeReads.j1 k1 l1 x7_1 t185 t186 bt188.2.1 bt188.2.2) else (some false))) = some r := H
         have A21 := Aside0.mk A210
         clear A210
         replace H := Option.bind_eq_some_iff.mp H
         obtain ⟨⟨t188, t189, t190⟩, A220, H⟩ := H
         replace H : (if t184.toList = t188.toList then (calamuslaw01_CodeReads.j1 k1 l1 x7_1 t185 t186 t189 t190) else (some false)) = some r := H
         have A22 := Aside0.mk A220
         clear A220
         by_cases c23 : t184.toList = t188.toList
         ·rw [if_pos c23] at H
          have c23b0 : (t184.toList == t188.toList) = true := beq_iff_eq.mpr c23
          have c23b1 : (t184.toList != t188.toList) = false := bne_eq_false_iff_eq.mpr c23
          clear c23
          have H' := Aside0.mk H
          clear H
          try go_wp2
          have n0_ := Aside0.mk (IsS45.drew HI173.out)
          have n1_ := Aside0.mk (IsS34.drew HI174.out)
          have n2_ := Aside0.mk (below_drew1 HB.out)
          clear HI173
          clear HI174
          clear HB
          have HI173 := n0_
          have HI174 := n1_
          have HB := n2_
          clear n0_ n1_ n2_
          have p183 : 0 ≤ (x7_1 : Int) := of_decide_eq_true as_
          have q183 : x7_1 < (l1.length : Int) := of_decide_eq_true as_
          obtain ⟨ad183, e183, hx183_0, hx183_1⟩ := at_T36 HR1.out x7_1 p183 q183
          have hw183_1 := hx183_1
          have hw183_0 := hx183_0
          obtain rfl : ad176 = ad183 := (by injection e183)
          replace hx183_0 := cb_ HB hx183_0
          replace hx183_1 := cb_ HB hx183_1
          replace p183 := eq_true p183
          replace q183 := eq_true q183
          have p187 : 0 ≤ (x7_1 : Int) := of_decide_eq_true as_
          have q187 : x7_1 < (l1.length : Int) := of_decide_eq_true as_
          obtain ⟨ad187, e187, hx187_0, hx187_1⟩ := at_T36 HR1.out x7_1 p187 q187
          have hw187_1 := hx187_1
          have hw187_0 := hx187_0
          obtain rfl : ad176 = ad187 := (by injection e187)
          replace hx187_0 := cb_ HB hx187_0
          replace hx187_1 := cb_ HB hx187_1
          replace p187 := eq_true p187
          replace q187 := eq_true q187
          refine start_ (n := 15) (S := fun w' => w'.cell? (ad176.add ((x7_1).toNat * 2)) = some (.int .i64 ((rd_T36 l1 x7_1).f0)) ∧ w'.cell? ⟨(ad176.add ((x7_1).toNat * 2)).block, (ad176.add ((x7_1).toNat * 2)).off + 1, none⟩ = some (.int .i64 ((rd_T36 l1 x7_1).f1)) ∧ w'.cell? (ad176.add ((x7_1).toNat * 2)) = some (.int .i64 ((rd_T36 l1 x7_1).f0)) ∧ w'.cell? ⟨(ad176.add ((x7_1).toNat * 2)).block, (ad176.add ((x7_1).toNat * 2)).off + 1, none⟩ = some (.int .i64 ((rd_T36 l1 x7_1).f1))) (ds := []) #[false, false, false, false, false, false, false, false, false, false, false, false, false, false, false] (by kernel_rfl) rfl rfl ⟨((HB.out.cell (World.block_lt_of_cell? w _ hw183_0)).trans hw183_0), ((HB.out.cell (World.block_lt_of_cell? w _ hw183_1)).trans hw183_1), ((HB.out.cell (World.block_lt_of_cell? w _ hw187_0)).trans hw187_0), ((HB.out.cell (World.block_lt_of_cell? w _ hw187_1)).trans hw187_1)⟩ (fun hHeld => ?_); refine with_tabW calamuslaw01_CodeReads.tab15 calamuslaw01_CodeReads.bits15 (fun HT_ HW_ => ?_)
          generalize wr.drew = w24 at HI173 HI174 HB hx183_0 hx183_1 hx187_0 hx187_1 hHeld ⊢
          refine pp_ (i := 0) (N := some 53) #[true, false, false, false, false, false, false, false, false, false, false, false, false, false, false] rfl rfl (any_of HT_.out (by kernel_rfl)) (h := ?_)
          refine pp_ (i := 1) (N := some 54) #[true, true, false, false, false, false, false, false, false, false, false, false, false, false, false] rfl rfl (any_of HT_.out (by kernel_rfl)) (h := ?_)
          refine pp_ (i := 2) (N := some 55) #[true, true, true, false, false, false, false, false, false, false, false, false, false, false, false] rfl rfl (any_of HT_.out (by kernel_rfl)) (h := ?_)
          refine pp_ (i := 3) (N := some 56) #[true, true, true, true, false, false, false, false, false, false, false, false, false, false, false] rfl rfl (any_of HT_.out (by kernel_rfl)) (h := ?_)
          refine pp_ (i := 4) (N := some 57) #[true, true, true, true, true, false, false, false, false, false, false, false, false, false, false] rfl rfl (any_of HT_.out (by kernel_rfl)) (h := ?_)
          refine pp_ (i := 7) (N := some 60) #[true, true, true, true, true, false, false, true, false, false, false, false, false, false, false] rfl rfl (any_of HT_.out (by kernel_rfl)) (h := ?_)
          refine pp_ (i := 8) (N := some 61) #[true, true, true, true, true, false, false, true, true, false, false, false, false, false, false] rfl rfl (any_of HT_.out (by kernel_rfl)) (h := ?_)
          refine pp_ (i := 9) (N := some 62) #[true, true, true, true, true, false, false, true, true, true, false, false, false, false, false] rfl rfl (any_of HT_.out (by kernel_rfl)) (h := ?_)
          refine pp_ (i := 10) (N := some 63) #[true, true, true, true, true, false, false, true, true, true, true, false, false, false, false] rfl rfl (any_of HT_.out (by kernel_rfl)) (h := ?_)
          refine pp_ (i := 11) (N := some 64) #[true, true, true, true, true, false, false, true, true, true, true, true, false, false, false] rfl rfl (any_of HT_.out (by kernel_rfl)) (h := ?_)
          refine take_ (i := 5) (N := some 58) (v := ?_) (a' := ?_) #[true, true, true, true, true, true, false, true, true, true, true, true, false, false, false] rfl rfl (take_ofW HT_.out HW_.out (by kernel_rfl)) (fun _ _ _ h => h) (Or.inl ⟨by rfl, ?_⟩) hHeld ?_ ?_
          rotate_left
          ·rintro w' ⟨s0, s1, s2, s3⟩
           go_simp
           with_reducible rfl
          rotate_left
          ·simp only [Act.put, List.setIfInBounds_toArray, List.set_cons_zero, List.set_cons_succ, i64_w, i32_w]
           rfl
          refine take_ (i := 12) (N := some 65) (v := ?_) (a' := ?_) #[true, true, true, true, true, true, false, true, true, true, true, true, true, false, false] rfl rfl (take_ofW HT_.out HW_.out (by kernel_rfl)) (fun _ _ _ h => h) (Or.inl ⟨by rfl, ?_⟩) hHeld ?_ ?_
          rotate_left
          ·rintro w' ⟨s0, s1, s2, s3⟩
           go_simp
           with_reducible rfl
          rotate_left
          ·simp only [Act.put, List.setIfInBounds_toArray, List.set_cons_zero, List.set_cons_succ, i64_w, i32_w]
           rfl
          refine one_ (i := 6) (N := some 59) #[true, true, true, true, true, true, true, true, true, true, true, true, true, false, false] rfl rfl (one_of HT_.out (by kernel_rfl)) (by decide) (fun K hK => ?_)
          refine goes_ Try.func24 (by kernel_rfl) rfl #[.pointer (some ⟨g173, 0, none⟩), .int .i64 ((rd_T36 l1 x7_1).f1)] (by rfl) rfl rfl (by (try simp only [List.map_toArray, List.map_cons, List.map_nil]); first | done | rfl | (simp only [List.length_drop, List.length_take]; rfl)) ?_
          with_reducible refine (code_Reader_Text.calls g173 x174000_1 x174001_1 ((rd_T36 l1 x7_1).f1) t184 t185 t186 w _ ?side1 ?side2 A21.out).mono ?_
          (case side1 => repeat (first | (with_reducible first | exact HI173.out | apply IsS45.alloc | apply IsS45.drewN | apply IsS45.drew | apply IsS45.set_0 | apply IsS45.set_1 | refine IsS45.far ?_ NB173_174.out _) | exact HI173.out))
          (case side2 => repeat (first | (with_reducible first | exact HB.out | apply below_alloc | apply pw_below_drewN | apply below_drew1 | refine below_set ?_ (IsS45.ge HI173.out) | refine below_set ?_ (IsS34.ge HI174.out)) | exact HB.out))
          rintro e w25 ⟨rfl, hi, hb, hk⟩
          refine ⟨_, rfl, ?_⟩
          have n0_ := Aside0.mk ((⟨KeepBut.blk hk (g' := gb174) (show IsS34 w _ gb174 x175000_1 x175001_1 from by repeat (first | (with_reducible first | exact HI174.out | apply IsS34.alloc | apply IsS34.drewN | apply IsS34.drew | apply IsS34.set_0 | apply IsS34.set_1 | refine IsS34.far ?_ NB174_173.out _) | exact HI174.out)).1 NB174_173.out (by simp), (IsS34.ge HI174.out)⟩ : IsS34 w w25 gb174 x175000_1 x175001_1))
          have n1_ := Aside0.mk (hb)
          have n2_ := Aside0.mk (hi)
          clear HI174
          clear HB
          clear HI173
          have HI174 := n0_
          have HB := n1_
          have HI173 := n2_
          clear n0_ n1_ n2_
          (try clear hb)
          (try clear hb2)
          (try clear hk)
          (try clear hi)
          refine hK.out _ _ ⟨((HB.out.cell (World.block_lt_of_cell? w _ hw183_0)).trans hw183_0), ((HB.out.cell (World.block_lt_of_cell? w _ hw183_1)).trans hw183_1), ((HB.out.cell (World.block_lt_of_cell? w _ hw187_0)).trans hw187_0), ((HB.out.cell (World.block_lt_of_cell? w _ hw187_1)).trans hw187_1)⟩ (fun hHeld => ?_)
          clear hK K
          refine norm_ (a' := ?_) ?_ ?_
          rotate_left
          ·show Act.put _ (some 59) _ = _
           simp only [Act.put, List.setIfInBounds_toArray, List.set_cons_zero, List.set_cons_succ, i64_w, i32_w]
           rfl
          refine one_ (i := 13) (N := some 66) #[true, true, true, true, true, true, true, true, true, true, true, true, true, true, false] rfl rfl (one_of HT_.out (by kernel_rfl)) (by decide) (fun K hK => ?_)
          refine goes_ Try.func25 (by kernel_rfl) rfl #[.pointer (some ⟨gb174, 0, none⟩), .int .i64 ((rd_T36 l1 x7_1).f1)] (by rfl) rfl rfl (by (try simp only [List.map_toArray, List.map_cons, List.map_nil]); first | done | rfl | (simp only [List.length_drop, List.length_take]; rfl)) ?_
          with_reducible refine (calamusref01_Reader_Text.calls gb174 x175000_1 x175001_1 ((rd_T36 l1 x7_1).f1) t188 t189 t190 w _ ?side1 ?side2 A22.out).mono ?_
          (case side1 => repeat (first | (with_reducible first | exact HI174.out | apply IsS34.alloc | apply IsS34.drewN | apply IsS34.drew | apply IsS34.set_0 | apply IsS34.set_1 | refine IsS34.far ?_ NB174_173.out _) | exact HI174.out))
          (case side2 => repeat (first | (with_reducible first | exact HB.out | apply below_alloc | apply pw_below_drewN | apply below_drew1 | refine below_set ?_ (IsS45.ge HI173.out) | refine below_set ?_ (IsS34.ge HI174.out)) | exact HB.out))
          rintro e w26 ⟨rfl, hi, hb, hk⟩
          refine ⟨_, rfl, ?_⟩
          have n0_ := Aside0.mk ((⟨KeepBut.blk hk (g' := g173) (show IsS45 w _ g173 t185 t186 from by repeat (first | (with_reducible first | exact HI173.out | apply IsS45.alloc | apply IsS45.drewN | apply IsS45.drew | apply IsS45.set_0 | apply IsS45.set_1 | refine IsS45.far ?_ NB173_174.out _) | exact HI173.out)).1 NB173_174.out (by simp), (IsS45.ge HI173.out)⟩ : IsS45 w w26 g173 t185 t186))
          have n1_ := Aside0.mk (hb)
          have n2_ := Aside0.mk (hi)
          clear HI173
          clear HB
          clear HI174
          have HI173 := n0_
          have HB := n1_
          have HI174 := n2_
          clear n0_ n1_ n2_
          (try clear hb)
          (try clear hb2)
          (try clear hk)
          (try clear hi)
          refine hK.out _ _ ⟨((HB.out.cell (World.block_lt_of_cell? w _ hw183_0)).trans hw183_0), ((HB.out.cell (World.block_lt_of_cell? w _ hw183_1)).trans hw183_1), ((HB.out.cell (World.block_lt_of_cell? w _ hw187_0)).trans hw187_0), ((HB.out.cell (World.block_lt_of_cell? w _ hw187_1)).trans hw187_1)⟩ (fun hHeld => ?_)
          clear hK K
          refine norm_ (a' := ?_) ?_ ?_
          rotate_left
          ·show Act.put _ (some 66) _ = _
           simp only [Act.put, List.setIfInBounds_toArray, List.set_cons_zero, List.set_cons_succ, i64_w, i32_w]
           rfl
          refine pp_ (i := 14) (N := some 67) #[true, true, true, true, true, true, true, true, true, true, true, true, true, true, true] rfl rfl (any_of HT_.out (by kernel_rfl)) (h := ?_)
          refine done_ (done_of HT_.out (by kernel_rfl)) ?_
          try go_wp2
          go_meet
          case rel => exact ⟨_, (t185), (t186), (t189), (t190), H', ⟨by have := HK1.out; first | omega | exact Nat.le_refl _⟩, ⟨by repeat (first | (with_reducible first | exact HI173.out | apply IsS45.alloc | apply IsS45.drewN | apply IsS45.drew | apply IsS45.set_0 | apply IsS45.set_1 | refine IsS45.far ?_ NB173_174.out _) | exact HI173.out)⟩, ⟨by repeat (first | (with_reducible first | exact HI174.out | apply IsS34.alloc | apply IsS34.drewN | apply IsS34.drew | apply IsS34.set_0 | apply IsS34.set_1 | refine IsS34.far ?_ NB174_173.out _) | exact HI174.out)⟩, ⟨by repeat (first | (with_reducible first | exact HB.out | apply below_alloc | apply pw_below_drewN | apply below_drew1 | refine below_set ?_ (IsS45.ge HI173.out) | refine below_set ?_ (IsS34.ge HI174.out)) | exact HB.out)⟩⟩
         ·rw [if_neg c23] at H
          have c23b0 : (t184.toList == t188.toList) = false := beq_eq_false_iff_ne.mpr c23
          have c23b1 : (t184.toList != t188.toList) = true := bne_iff_ne.mpr c23
          exact nf_ H hr_
        ·rw [if_neg c20] at H
         have c20b0 : (((rd_T36 l1 x7_1).f0) == 1) = false := beq_eq_false_iff_ne.mpr c20
         have c20b1 : (((rd_T36 l1 x7_1).f0) != 1) = true := bne_iff_ne.mpr c20
         replace H := Option.bind_eq_some_iff.mp H
         obtain ⟨⟨t192, t195, t196⟩, A300, H⟩ := H
         replace H : ((calamusref01_Reader_Nums.f k1 x175000_1 x175001_1 ((rd_T36 l1 x7_1).f1)).bind fun bt198 => ((calamusref01_Same.f k1 t192 bt198.1).bind fun t203 => (if t203 = true then (calamuslaw01_CodeReads.j1 k1 l1 x7_1 t195 t196 bt198.2.1 bt198.2.2) else (some false)))) = some r := H
         have A30 := Aside0.mk A300
         clear A300
         replace H := Option.bind_eq_some_iff.mp H
         obtain ⟨⟨t198, t201, t202⟩, A310, H⟩ := H
         replace H : ((calamusref01_Same.f k1 t192 t198).bind fun t203 => (if t203 = true then (calamuslaw01_CodeReads.j1 k1 l1 x7_1 t195 t196 t201 t202) else (some false))) = some r := H
         have A31 := Aside0.mk A310
         clear A310
         replace H := Option.bind_eq_some_iff.mp H
         obtain ⟨t203, A320, H⟩ := H
         replace H : (if t203 = true then (calamuslaw01_CodeReads.j1 k1 l1 x7_1 t195 t196 t201 t202) else (some false)) = some r := H
         have A32 := Aside0.mk A320
         clear A320
         by_cases c33 : t203 = true
         ·subst c33
          have H1 : (calamuslaw01_CodeReads.j1 k1 l1 x7_1 t195 t196 t201 t202) = some r := by rw [if_pos rfl] at H; exact H
          clear H
          have H := H1
          clear H1
          have H' := Aside0.mk H
          clear H
          try go_wp2
          have n0_ := Aside0.mk (IsS45.drew HI173.out)
          have n1_ := Aside0.mk (IsS34.drew HI174.out)
          have n2_ := Aside0.mk (below_drew1 HB.out)
          clear HI173
          clear HI174
          clear HB
          have HI173 := n0_
          have HI174 := n1_
          have HB := n2_
          clear n0_ n1_ n2_
          have p191 : 0 ≤ (x7_1 : Int) := of_decide_eq_true as_
          have q191 : x7_1 < (l1.length : Int) := of_decide_eq_true as_
          obtain ⟨ad191, e191, hx191_0, hx191_1⟩ := at_T36 HR1.out x7_1 p191 q191
          have hw191_1 := hx191_1
          have hw191_0 := hx191_0
          obtain rfl : ad176 = ad191 := (by injection e191)
          replace hx191_0 := cb_ HB hx191_0
          replace hx191_1 := cb_ HB hx191_1
          replace p191 := eq_true p191
          replace q191 := eq_true q191
          have p197 : 0 ≤ (x7_1 : Int) := of_decide_eq_true as_
          have q197 : x7_1 < (l1.length : Int) := of_decide_eq_true as_
          obtain ⟨ad197, e197, hx197_0, hx197_1⟩ := at_T36 HR1.out x7_1 p197 q197
          have hw197_1 := hx197_1
          have hw197_0 := hx197_0
          obtain rfl : ad176 = ad197 := (by injection e197)
          replace hx197_0 := cb_ HB hx197_0
          replace hx197_1 := cb_ HB hx197_1
          replace p197 := eq_true p197
          replace q197 := eq_true q197
          refine start_ (n := 16) (S := fun w' => w'.cell? (ad176.add ((x7_1).toNat * 2)) = some (.int .i64 ((rd_T36 l1 x7_1).f0)) ∧ w'.cell? ⟨(ad176.add ((x7_1).toNat * 2)).block, (ad176.add ((x7_1).toNat * 2)).off + 1, none⟩ = some (.int .i64 ((rd_T36 l1 x7_1).f1)) ∧ w'.cell? (ad176.add ((x7_1).toNat * 2)) = some (.int .i64 ((rd_T36 l1 x7_1).f0)) ∧ w'.cell? ⟨(ad176.add ((x7_1).toNat * 2)).block, (ad176.add ((x7_1).toNat * 2)).off + 1, none⟩ = some (.int .i64 ((rd_T36 l1 x7_1).f1))) (ds := []) #[false, false, false, false, false, false, false, false, false, false, false, false, false, false, false, false] (by kernel_rfl) rfl rfl ⟨((HB.out.cell (World.block_lt_of_cell? w _ hw191_0)).trans hw191_0), ((HB.out.cell (World.block_lt_of_cell? w _ hw191_1)).trans hw191_1), ((HB.out.cell (World.block_lt_of_cell? w _ hw197_0)).trans hw197_0), ((HB.out.cell (World.block_lt_of_cell? w _ hw197_1)).trans hw197_1)⟩ (fun hHeld => ?_); refine with_tabW calamuslaw01_CodeReads.tab9 calamuslaw01_CodeReads.bits9 (fun HT_ HW_ => ?_)
          generalize wr.drew = w34 at HI173 HI174 HB hx191_0 hx191_1 hx197_0 hx197_1 hHeld ⊢
          refine pp_ (i := 0) (N := some 28) #[true, false, false, false, false, false, false, false, false, false, false, false, false, false, false, false] rfl rfl (any_of HT_.out (by kernel_rfl)) (h := ?_)
          refine pp_ (i := 1) (N := some 29) #[true, true, false, false, false, false, false, false, false, false, false, false, false, false, false, false] rfl rfl (any_of HT_.out (by kernel_rfl)) (h := ?_)
          refine pp_ (i := 2) (N := some 30) #[true, true, true, false, false, false, false, false, false, false, false, false, false, false, false, false] rfl rfl (any_of HT_.out (by kernel_rfl)) (h := ?_)
          refine pp_ (i := 3) (N := some 31) #[true, true, true, true, false, false, false, false, false, false, false, false, false, false, false, false] rfl rfl (any_of HT_.out (by kernel_rfl)) (h := ?_)
          refine pp_ (i := 4) (N := some 32) #[true, true, true, true, true, false, false, false, false, false, false, false, false, false, false, false] rfl rfl (any_of HT_.out (by kernel_rfl)) (h := ?_)
          refine pp_ (i := 7) (N := some 35) #[true, true, true, true, true, false, false, true, false, false, false, false, false, false, false, false] rfl rfl (any_of HT_.out (by kernel_rfl)) (h := ?_)
          refine pp_ (i := 8) (N := some 36) #[true, true, true, true, true, false, false, true, true, false, false, false, false, false, false, false] rfl rfl (any_of HT_.out (by kernel_rfl)) (h := ?_)
          refine pp_ (i := 9) (N := some 37) #[true, true, true, true, true, false, false, true, true, true, false, false, false, false, false, false] rfl rfl (any_of HT_.out (by kernel_rfl)) (h := ?_)
          refine pp_ (i := 10) (N := some 38) #[true, true, true, true, true, false, false, true, true, true, true, false, false, false, false, false] rfl rfl (any_of HT_.out (by kernel_rfl)) (h := ?_)
          refine pp_ (i := 11) (N := some 39) #[true, true, true, true, true, false, false, true, true, true, true, true, false, false, false, false] rfl rfl (any_of HT_.out (by kernel_rfl)) (h := ?_)
          refine take_ (i := 5) (N := some 33) (v := ?_) (a' := ?_) #[true, true, true, true, true, true, false, true, true, true, true, true, false, false, false, false] rfl rfl (take_ofW HT_.out HW_.out (by kernel_rfl)) (fun _ _ _ h => h) (Or.inl ⟨by rfl, ?_⟩) hHeld ?_ ?_
          rotate_left
          ·rintro w' ⟨s0, s1, s2, s3⟩
           go_simp
           with_reducible rfl
          rotate_left
          ·simp only [Act.put, List.setIfInBounds_toArray, List.set_cons_zero, List.set_cons_succ, i64_w, i32_w]
           rfl
          refine take_ (i := 12) (N := some 40) (v := ?_) (a' := ?_) #[true, true, true, true, true, true, false, true, true, true, true, true, true, false, false, false] rfl rfl (take_ofW HT_.out HW_.out (by kernel_rfl)) (fun _ _ _ h => h) (Or.inl ⟨by rfl, ?_⟩) hHeld ?_ ?_
          rotate_left
          ·rintro w' ⟨s0, s1, s2, s3⟩
           go_simp
           with_reducible rfl
          rotate_left
          ·simp only [Act.put, List.setIfInBounds_toArray, List.set_cons_zero, List.set_cons_succ, i64_w, i32_w]
           rfl
          refine one_ (i := 6) (N := some 34) #[true, true, true, true, true, true, true, true, true, true, true, true, true, false, false, false] rfl rfl (one_of HT_.out (by kernel_rfl)) (by decide) (fun K hK => ?_)
          refine goes_ Try.func27 (by kernel_rfl) rfl #[.pointer (some ⟨g173, 0, none⟩), .int .i64 ((rd_T36 l1 x7_1).f1)] (by rfl) rfl rfl (by (try simp only [List.map_toArray, List.map_cons, List.map_nil]); first | done | rfl | (simp only [List.length_drop, List.length_take]; rfl)) ?_
          with_reducible refine (code_Reader_Nums.calls k1 g173 x174000_1 x174001_1 ((rd_T36 l1 x7_1).f1) t192 t195 t196 w _ ?side1 ?side2 A30.out).mono ?_
          (case side1 => repeat (first | (with_reducible first | exact HI173.out | apply IsS45.alloc | apply IsS45.drewN | apply IsS45.drew | apply IsS45.set_0 | apply IsS45.set_1 | refine IsS45.far ?_ NB173_174.out _) | exact HI173.out))
          (case side2 => repeat (first | (with_reducible first | exact HB.out | apply below_alloc | apply pw_below_drewN | apply below_drew1 | refine below_set ?_ (IsS45.ge HI173.out) | refine below_set ?_ (IsS34.ge HI174.out)) | exact HB.out))
          rintro e w35 ⟨v193, rfl, ho0, hi, hb, hk⟩
          refine ⟨_, rfl, ?_⟩
          have n0_ := Aside0.mk ((⟨KeepBut.blk hk (g' := gb174) (show IsS34 w _ gb174 x175000_1 x175001_1 from by repeat (first | (with_reducible first | exact HI174.out | apply IsS34.alloc | apply IsS34.drewN | apply IsS34.drew | apply IsS34.set_0 | apply IsS34.set_1 | refine IsS34.far ?_ NB174_173.out _) | exact HI174.out)).1 NB174_173.out (by simp), (IsS34.ge HI174.out)⟩ : IsS34 w w35 gb174 x175000_1 x175001_1))
          have n1_ := Aside0.mk (Kd.R_lower ho0 (below_size (by repeat (first | (with_reducible first | exact HB.out | apply below_alloc | apply pw_below_drewN | apply below_drew1 | refine below_set ?_ (IsS45.ge HI173.out) | refine below_set ?_ (IsS34.ge HI174.out)) | exact HB.out))))
          have n2_ := Aside0.mk (hb)
          have n3_ := Aside0.mk (hi)
          clear HI174
          clear HB
          clear HI173
          have HI174 := n0_
          have HO194 := n1_
          have HB := n2_
          have HI173 := n3_
          clear n0_ n1_ n2_ n3_
          (try clear hb)
          (try clear hb2)
          (try clear hk)
          (try clear hi)
          (try clear ho0)
          refine hK.out _ _ ⟨((HB.out.cell (World.block_lt_of_cell? w _ hw191_0)).trans hw191_0), ((HB.out.cell (World.block_lt_of_cell? w _ hw191_1)).trans hw191_1), ((HB.out.cell (World.block_lt_of_cell? w _ hw197_0)).trans hw197_0), ((HB.out.cell (World.block_lt_of_cell? w _ hw197_1)).trans hw197_1)⟩ (fun hHeld => ?_)
          clear hK K
          refine norm_ (a' := ?_) ?_ ?_
          rotate_left
          ·show Act.put _ (some 34) _ = _
           simp only [Act.put, List.setIfInBounds_toArray, List.set_cons_zero, List.set_cons_succ, i64_w, i32_w]
           rfl
          refine one_ (i := 13) (N := some 41) #[true, true, true, true, true, true, true, true, true, true, true, true, true, true, false, false] rfl rfl (one_of HT_.out (by kernel_rfl)) (by decide) (fun K hK => ?_)
          refine goes_ Try.func28 (by kernel_rfl) rfl #[.pointer (some ⟨gb174, 0, none⟩), .int .i64 ((rd_T36 l1 x7_1).f1)] (by rfl) rfl rfl (by (try simp only [List.map_toArray, List.map_cons, List.map_nil]); first | done | rfl | (simp only [List.length_drop, List.length_take]; rfl)) ?_
          with_reducible refine (calamusref01_Reader_Nums.calls k1 gb174 x175000_1 x175001_1 ((rd_T36 l1 x7_1).f1) t198 t201 t202 w _ ?side1 ?side2 A31.out).mono ?_
          (case side1 => repeat (first | (with_reducible first | exact HI174.out | apply IsS34.alloc | apply IsS34.drewN | apply IsS34.drew | apply IsS34.set_0 | apply IsS34.set_1 | refine IsS34.far ?_ NB174_173.out _) | exact HI174.out))
          (case side2 => repeat (first | (with_reducible first | exact HB.out | apply below_alloc | apply pw_below_drewN | apply below_drew1 | refine below_set ?_ (IsS45.ge HI173.out) | refine below_set ?_ (IsS34.ge HI174.out)) | exact HB.out))
          rintro e w36 ⟨v199, rfl, ho0, hi, hb, hk⟩
          refine ⟨_, rfl, ?_⟩
          have n0_ := Aside0.mk ((⟨KeepBut.blk hk (g' := g173) (show IsS45 w _ g173 t195 t196 from by repeat (first | (with_reducible first | exact HI173.out | apply IsS45.alloc | apply IsS45.drewN | apply IsS45.drew | apply IsS45.set_0 | apply IsS45.set_1 | refine IsS45.far ?_ NB173_174.out _) | exact HI173.out)).1 NB173_174.out (by simp), (IsS45.ge HI173.out)⟩ : IsS45 w w36 g173 t195 t196))
          have n1_ := Aside0.mk (Kd.R_mono (Kd.R_told (Kd.R_oldK (IsS34.apart (show IsS34 w _ gb174 x175000_1 x175001_1 from by repeat (first | (with_reducible first | exact HI174.out | apply IsS34.alloc | apply IsS34.drewN | apply IsS34.drew | apply IsS34.set_0 | apply IsS34.set_1 | refine IsS34.far ?_ NB174_173.out _) | exact HI174.out)) (rw_ HO194.out) (by decide)) hk) (Kd.R_base ho0)) (fun _ h_ => h_.1))
          have n2_ := Aside0.mk (Kd.R_lower (Kd.R_new' ho0 (Kd.R_lt (rw_ HO194.out))) (below_size (by repeat (first | (with_reducible first | exact HB.out | apply below_alloc | apply pw_below_drewN | apply below_drew1 | refine below_set ?_ (IsS45.ge HI173.out) | refine below_set ?_ (IsS34.ge HI174.out)) | exact HB.out))))
          have n3_ := Aside0.mk (hb)
          have n4_ := Aside0.mk (hi)
          clear HI173
          clear HO194
          clear HB
          clear HI174
          have HI173 := n0_
          have HO194 := n1_
          have HO200 := n2_
          have HB := n3_
          have HI174 := n4_
          clear n0_ n1_ n2_ n3_ n4_
          (try clear hb)
          (try clear hb2)
          (try clear hk)
          (try clear hi)
          (try clear ho0)
          obtain ⟨Ao37, co37, eo37⟩ := Kd.R_slice HO194.out
          (first | subst eo37 | (injection eo37 with f1_ f2_ f3_; have f4_ := f1_.symm; have f5_ := f3_.symm; clear f1_ f2_ f3_; subst f4_; subst f5_))
          obtain ⟨Ao38, co38, eo38⟩ := Kd.R_slice HO200.out
          (first | subst eo38 | (injection eo38 with f1_ f2_ f3_; have f4_ := f1_.symm; have f5_ := f3_.symm; clear f1_ f2_ f3_; subst f4_; subst f5_))
          refine hK.out _ _ ⟨((HB.out.cell (World.block_lt_of_cell? w _ hw191_0)).trans hw191_0), ((HB.out.cell (World.block_lt_of_cell? w _ hw191_1)).trans hw191_1), ((HB.out.cell (World.block_lt_of_cell? w _ hw197_0)).trans hw197_0), ((HB.out.cell (World.block_lt_of_cell? w _ hw197_1)).trans hw197_1)⟩ (fun hHeld => ?_)
          clear hK K
          refine norm_ (a' := ?_) ?_ ?_
          rotate_left
          ·show Act.put _ (some 41) _ = _
           simp only [Act.put, List.setIfInBounds_toArray, List.set_cons_zero, List.set_cons_succ, i64_w, i32_w]
           rfl
          refine one_ (i := 14) (N := some 42) #[true, true, true, true, true, true, true, true, true, true, true, true, true, true, true, false] rfl rfl (one_of HT_.out (by kernel_rfl)) (by decide) (fun K hK => ?_)
          refine goes_ Try.func26 (by kernel_rfl) rfl #[.slice Ao37 t192.length co37, .slice Ao38 t198.length co38] (by rfl) rfl rfl (by (try simp only [List.map_toArray, List.map_cons, List.map_nil]); first | done | rfl | (simp only [List.length_drop, List.length_take]; rfl)) ?_
          with_reducible refine (calamusref01_Same.calls k1 _ _ t192 _ _ t198 true _ ?side1 ?side2 ?side3 ?side4 A32.out).mono ?_
          (case side1 => repeat (first | exact (Kd.R_reads' HO194.out).2.2 | (with_reducible refine Kd.C_alloc ?_ _) | (with_reducible refine Kd.C_drewN ?_ _) | (with_reducible refine Kd.C_drew ?_)))
          (case side2 => exact (Kd.R_reads' HO194.out).2.1)
          (case side3 => repeat (first | exact (Kd.R_reads' HO200.out).2.2 | (with_reducible refine Kd.C_alloc ?_ _) | (with_reducible refine Kd.C_drewN ?_ _) | (with_reducible refine Kd.C_drew ?_)))
          (case side4 => exact (Kd.R_reads' HO200.out).2.1)
          rintro e w' ⟨rfl, ⟨nd, rfl⟩⟩
          refine ⟨_, rfl, ?_⟩
          refine hK.out _ _ ⟨((HB.out.cell (World.block_lt_of_cell? w _ hw191_0)).trans hw191_0), ((HB.out.cell (World.block_lt_of_cell? w _ hw191_1)).trans hw191_1), ((HB.out.cell (World.block_lt_of_cell? w _ hw197_0)).trans hw197_0), ((HB.out.cell (World.block_lt_of_cell? w _ hw197_1)).trans hw197_1)⟩ (fun hHeld => ?_)
          clear hK K
          refine norm_ (a' := ?_) ?_ ?_
          rotate_left
          ·show Act.put _ (some 42) _ = _
           simp only [Act.put, List.setIfInBounds_toArray, List.set_cons_zero, List.set_cons_succ, i64_w, i32_w]
           rfl
          refine pp_ (i := 15) (N := some 43) #[true, true, true, true, true, true, true, true, true, true, true, true, true, true, true, true] rfl rfl (any_of HT_.out (by kernel_rfl)) (h := ?_)
          refine done_ (done_of HT_.out (by kernel_rfl)) ?_
          try go_wp2
          go_meet
          case rel => exact ⟨_, (t195), (t196), (t201), (t202), H', ⟨by have := HK1.out; first | omega | exact Nat.le_refl _⟩, ⟨by repeat (first | (with_reducible first | exact HI173.out | apply IsS45.alloc | apply IsS45.drewN | apply IsS45.drew | apply IsS45.set_0 | apply IsS45.set_1 | refine IsS45.far ?_ NB173_174.out _) | exact HI173.out)⟩, ⟨by repeat (first | (with_reducible first | exact HI174.out | apply IsS34.alloc | apply IsS34.drewN | apply IsS34.drew | apply IsS34.set_0 | apply IsS34.set_1 | refine IsS34.far ?_ NB174_173.out _) | exact HI174.out)⟩, ⟨by repeat (first | (with_reducible first | exact HB.out | apply below_alloc | apply pw_below_drewN | apply below_drew1 | refine below_set ?_ (IsS45.ge HI173.out) | refine below_set ?_ (IsS34.ge HI174.out)) | exact HB.out)⟩⟩
         ·replace c33 := Bool.eq_false_iff.mpr c33
          subst c33
          have H1 : (some false) = some r := by rw [if_neg (show ¬ (false = true) by decide)] at H; exact H
          clear H
          have H := H1
          clear H1
          exact nf_ H hr_
      case rest =>
       clear HC11
       try clear c3
       obtain ⟨kq, x174000_10, x174001_10, x175000_10, x175001_10, HA, HJ10, HI173, HI174, HB⟩ := hcut
       cases kq with
       | zero => exact absurd HA.out (by simp [calamuslaw01_CodeReads.j1])
       | succ kj10 =>
        have H := HA.out
        clear HA
        simp only [calamuslaw01_CodeReads.j1] at H
        replace H := Option.bind_eq_some_iff.mp H
        obtain ⟨⟨t204, t205, t206⟩, A440, H⟩ := H
        replace H : (if t204 = (x175000_10.size : Int) then ((code_Reader_Err.f t205 t206).bind fun bt207 => (if bt207.1 = x175001_10 then (calamuslaw01_CodeReads.l0 kj10 l1 (wrap64 (x7_1 + 1)) bt207.2.1 bt207.2.2 x175000_10 x175001_10) else (some false))) else (some false)) = some r := H
        have A44 := Aside0.mk A440
        clear A440
        by_cases c45 : t204 = (x175000_10.size : Int)
        ·rw [if_pos c45] at H
         have c45b0 : (t204 == (x175000_10.size : Int)) = true := beq_iff_eq.mpr c45
         have c45b1 : (t204 != (x175000_10.size : Int)) = false := bne_eq_false_iff_eq.mpr c45
         clear c45
         replace H := Option.bind_eq_some_iff.mp H
         obtain ⟨⟨t207, t208, t209⟩, A460, H⟩ := H
         replace H : (if t207 = x175001_10 then (calamuslaw01_CodeReads.l0 kj10 l1 (wrap64 (x7_1 + 1)) t208 t209 x175000_10 x175001_10) else (some false)) = some r := H
         have A46 := Aside0.mk A460
         clear A460
         by_cases c47 : t207 = x175001_10
         ·rw [if_pos c47] at H
          have c47b0 : (t207 == x175001_10) = true := beq_iff_eq.mpr c47
          have c47b1 : (t207 != x175001_10) = false := bne_eq_false_iff_eq.mpr c47
          clear c47
          have H' := Aside0.mk H
          clear H
          try go_wp2
          have n0_ := Aside0.mk (IsS45.drew HI173.out)
          have n1_ := Aside0.mk (IsS34.drew HI174.out)
          have n2_ := Aside0.mk (below_drew1 HB.out)
          clear HI173
          clear HI174
          clear HB
          have HI173 := n0_
          have HI174 := n1_
          have HB := n2_
          clear n0_ n1_ n2_
          refine start_ (n := 17) (S := fun w' => w'.cell? ⟨gb174, 0, none⟩ = some (.string x175000_10) ∧ w'.cell? ⟨gb174, 1, none⟩ = some (.int .i64 x175001_10)) (ds := []) #[false, false, false, false, false, false, false, false, false, false, false, false, false, false, false, false, false] (by kernel_rfl) rfl rfl ⟨cellS34_0 HI174.out.1, cellS34_1 HI174.out.1⟩ (fun hHeld => ?_); refine with_tabW calamuslaw01_CodeReads.tab17 calamuslaw01_CodeReads.bits17 (fun HT_ HW_ => ?_)
          generalize wc.drew = w48 at HI173 HI174 HB hHeld ⊢
          refine pp_ (i := 0) (N := some 68) #[true, false, false, false, false, false, false, false, false, false, false, false, false, false, false, false, false] rfl rfl (any_of HT_.out (by kernel_rfl)) (h := ?_)
          refine pp_ (i := 2) (N := some 70) #[true, false, true, false, false, false, false, false, false, false, false, false, false, false, false, false, false] rfl rfl (any_of HT_.out (by kernel_rfl)) (h := ?_)
          refine pp_ (i := 3) (N := some 71) #[true, false, true, true, false, false, false, false, false, false, false, false, false, false, false, false, false] rfl rfl (any_of HT_.out (by kernel_rfl)) (h := ?_)
          refine pp_ (i := 4) (N := some 72) #[true, false, true, true, true, false, false, false, false, false, false, false, false, false, false, false, false] rfl rfl (any_of HT_.out (by kernel_rfl)) (h := ?_)
          refine take_ (i := 5) (N := some 73) (v := ?_) (a' := ?_) #[true, false, true, true, true, true, false, false, false, false, false, false, false, false, false, false, false] rfl rfl (take_ofW HT_.out HW_.out (by kernel_rfl)) (fun _ _ _ h => h) (Or.inl ⟨by rfl, ?_⟩) hHeld ?_ ?_
          rotate_left
          ·rintro w' ⟨s0, s1⟩
           go_simp
           with_reducible rfl
          rotate_left
          ·simp only [Act.put, List.setIfInBounds_toArray, List.set_cons_zero, List.set_cons_succ, i64_w, i32_w]
           rfl
          refine pp_ (i := 6) (N := some 74) #[true, false, true, true, true, true, true, false, false, false, false, false, false, false, false, false, false] rfl rfl (any_of HT_.out (by kernel_rfl)) (h := ?_)
          refine one_ (i := 1) (N := some 69) #[true, true, true, true, true, true, true, false, false, false, false, false, false, false, false, false, false] rfl rfl (one_of HT_.out (by kernel_rfl)) (by decide) (fun K hK => ?_)
          refine goes_ Try.func29 (by kernel_rfl) rfl #[.pointer (some ⟨g173, 0, none⟩)] (by rfl) rfl rfl (by (try simp only [List.map_toArray, List.map_cons, List.map_nil]); first | done | rfl | (simp only [List.length_drop, List.length_take]; rfl)) ?_
          with_reducible refine (code_Reader_Left.calls g173 x174000_10 x174001_10 t204 t205 t206 w _ ?side1 ?side2 A44.out).mono ?_
          (case side1 => repeat (first | (with_reducible first | exact HI173.out | apply IsS45.alloc | apply IsS45.drewN | apply IsS45.drew | apply IsS45.set_0 | apply IsS45.set_1 | refine IsS45.far ?_ NB173_174.out _) | exact HI173.out))
          (case side2 => repeat (first | (with_reducible first | exact HB.out | apply below_alloc | apply pw_below_drewN | apply below_drew1 | refine below_set ?_ (IsS45.ge HI173.out) | refine below_set ?_ (IsS34.ge HI174.out)) | exact HB.out))
          rintro e w49 ⟨rfl, hi, hb, hk⟩
          refine ⟨_, rfl, ?_⟩
          have n0_ := Aside0.mk ((⟨KeepBut.blk hk (g' := gb174) (show IsS34 w _ gb174 x175000_10 x175001_10 from by repeat (first | (with_reducible first | exact HI174.out | apply IsS34.alloc | apply IsS34.drewN | apply IsS34.drew | apply IsS34.set_0 | apply IsS34.set_1 | refine IsS34.far ?_ NB174_173.out _) | exact HI174.out)).1 NB174_173.out (by simp), (IsS34.ge HI174.out)⟩ : IsS34 w w49 gb174 x175000_10 x175001_10))
          have n1_ := Aside0.mk (hb)
          have n2_ := Aside0.mk (hi)
          clear HI174
          clear HB
          clear HI173
          have HI174 := n0_
          have HB := n1_
          have HI173 := n2_
          clear n0_ n1_ n2_
          (try clear hb)
          (try clear hb2)
          (try clear hk)
          (try clear hi)
          refine hK.out _ _ ⟨cellS34_0 HI174.out.1, cellS34_1 HI174.out.1⟩ (fun hHeld => ?_)
          clear hK K
          refine norm_ (a' := ?_) ?_ ?_
          rotate_left
          ·show Act.put _ (some 69) _ = _
           simp only [Act.put, List.setIfInBounds_toArray, List.set_cons_zero, List.set_cons_succ, i64_w, i32_w]
           rfl
          refine pp_ (i := 7) (N := some 75) #[true, true, true, true, true, true, true, true, false, false, false, false, false, false, false, false, false] rfl rfl (any_of HT_.out (by kernel_rfl)) (h := ?_)
          refine pp_ (i := 8) (N := some 76) #[true, true, true, true, true, true, true, true, true, false, false, false, false, false, false, false, false] rfl rfl (any_of HT_.out (by kernel_rfl)) (h := ?_)
          refine pp_ (i := 9) (N := some 77) #[true, true, true, true, true, true, true, true, true, true, false, false, false, false, false, false, false] rfl rfl (any_of HT_.out (by kernel_rfl)) (h := ?_)
          refine pp_ (i := 11) (N := some 79) #[true, true, true, true, true, true, true, true, true, true, false, true, false, false, false, false, false] rfl rfl (any_of HT_.out (by kernel_rfl)) (h := ?_)
          refine pp_ (i := 12) (N := some 80) #[true, true, true, true, true, true, true, true, true, true, false, true, true, false, false, false, false] rfl rfl (any_of HT_.out (by kernel_rfl)) (h := ?_)
          refine pp_ (i := 13) (N := some 81) #[true, true, true, true, true, true, true, true, true, true, false, true, true, true, false, false, false] rfl rfl (any_of HT_.out (by kernel_rfl)) (h := ?_)
          refine take_ (i := 14) (N := some 82) (v := ?_) (a' := ?_) #[true, true, true, true, true, true, true, true, true, true, false, true, true, true, true, false, false] rfl rfl (take_ofW HT_.out HW_.out (by kernel_rfl)) (fun _ _ _ h => h) (Or.inl ⟨by rfl, ?_⟩) hHeld ?_ ?_
          rotate_left
          ·rintro w' ⟨s0, s1⟩
           go_simp
           with_reducible rfl
          rotate_left
          ·simp only [Act.put, List.setIfInBounds_toArray, List.set_cons_zero, List.set_cons_succ, i64_w, i32_w]
           rfl
          refine one_ (i := 10) (N := some 78) #[true, true, true, true, true, true, true, true, true, true, true, true, true, true, true, false, false] rfl rfl (one_of HT_.out (by kernel_rfl)) (by decide) (fun K hK => ?_)
          refine goes_ Try.func30 (by kernel_rfl) rfl #[.pointer (some ⟨g173, 0, none⟩)] (by rfl) rfl rfl (by (try simp only [List.map_toArray, List.map_cons, List.map_nil]); first | done | rfl | (simp only [List.length_drop, List.length_take]; rfl)) ?_
          with_reducible refine (code_Reader_Err.calls g173 t205 t206 t207 t208 t209 w _ ?side1 ?side2 A46.out).mono ?_
          (case side1 => repeat (first | (with_reducible first | exact HI173.out | apply IsS45.alloc | apply IsS45.drewN | apply IsS45.drew | apply IsS45.set_0 | apply IsS45.set_1 | refine IsS45.far ?_ NB173_174.out _) | exact HI173.out))
          (case side2 => repeat (first | (with_reducible first | exact HB.out | apply below_alloc | apply pw_below_drewN | apply below_drew1 | refine below_set ?_ (IsS45.ge HI173.out) | refine below_set ?_ (IsS34.ge HI174.out)) | exact HB.out))
          rintro e w50 ⟨rfl, hi, hb, hk⟩
          refine ⟨_, rfl, ?_⟩
          have n0_ := Aside0.mk ((⟨KeepBut.blk hk (g' := gb174) (show IsS34 w _ gb174 x175000_10 x175001_10 from by repeat (first | (with_reducible first | exact HI174.out | apply IsS34.alloc | apply IsS34.drewN | apply IsS34.drew | apply IsS34.set_0 | apply IsS34.set_1 | refine IsS34.far ?_ NB174_173.out _) | exact HI174.out)).1 NB174_173.out (by simp), (IsS34.ge HI174.out)⟩ : IsS34 w w50 gb174 x175000_10 x175001_10))
          have n1_ := Aside0.mk (hb)
          have n2_ := Aside0.mk (hi)
          clear HI174
          clear HB
          clear HI173
          have HI174 := n0_
          have HB := n1_
          have HI173 := n2_
          clear n0_ n1_ n2_
          (try clear hb)
          (try clear hb2)
          (try clear hk)
          (try clear hi)
          refine hK.out _ _ ⟨cellS34_0 HI174.out.1, cellS34_1 HI174.out.1⟩ (fun hHeld => ?_)
          clear hK K
          refine norm_ (a' := ?_) ?_ ?_
          rotate_left
          ·show Act.put _ (some 78) _ = _
           simp only [Act.put, List.setIfInBounds_toArray, List.set_cons_zero, List.set_cons_succ, i64_w, i32_w]
           rfl
          refine pp_ (i := 15) (N := some 83) #[true, true, true, true, true, true, true, true, true, true, true, true, true, true, true, true, false] rfl rfl (any_of HT_.out (by kernel_rfl)) (h := ?_)
          refine pp_ (i := 16) (N := some 84) #[true, true, true, true, true, true, true, true, true, true, true, true, true, true, true, true, true] rfl rfl (any_of HT_.out (by kernel_rfl)) (h := ?_)
          refine done_ (done_of HT_.out (by kernel_rfl)) ?_
          try go_wp2
          go_roundg kj10
          case measure => have := HK1.out; have := HJ10.out; omega
          case rel => exact ⟨(wrap64 (x7_1 + 1)), (t208), (t209), (x175000_10), (x175001_10), es_, H', ⟨by have := HK1.out; have := HJ10.out; omega⟩, ⟨by repeat (first | (with_reducible first | exact HI173.out | apply IsS45.alloc | apply IsS45.drewN | apply IsS45.drew | apply IsS45.set_0 | apply IsS45.set_1 | refine IsS45.far ?_ NB173_174.out _) | exact HI173.out)⟩, ⟨by repeat (first | (with_reducible first | exact HI174.out | apply IsS34.alloc | apply IsS34.drewN | apply IsS34.drew | apply IsS34.set_0 | apply IsS34.set_1 | refine IsS34.far ?_ NB174_173.out _) | exact HI174.out)⟩, ⟨by repeat (first | (with_reducible first | exact HB.out | apply below_alloc | apply pw_below_drewN | apply below_drew1 | refine below_set ?_ (IsS45.ge HI173.out) | refine below_set ?_ (IsS34.ge HI174.out)) | exact HB.out)⟩⟩
         ·rw [if_neg c47] at H
          have c47b0 : (t207 == x175001_10) = false := beq_eq_false_iff_ne.mpr c47
          have c47b1 : (t207 != x175001_10) = true := bne_iff_ne.mpr c47
          exact nf_ H hr_
        ·rw [if_neg c45] at H
         have c45b0 : (t204 == (x175000_10.size : Int)) = false := beq_eq_false_iff_ne.mpr c45
         have c45b1 : (t204 != (x175000_10.size : Int)) = true := bne_iff_ne.mpr c45
         exact nf_ H hr_
     ·rw [if_neg c10] at H
      exact absurd H (by simp)
    ·rw [if_neg c9] at H
     have c9b0 : decide (x7_1 < (l1.length : Int)) = false := decide_eq_false c9
     clear c9
     replace H := Option.bind_eq_some_iff.mp H
     obtain ⟨t175, A560, H⟩ := H
     replace H : (some t175) = some r := H
     have A56 := Aside0.mk A560
     clear A560
     obtain rfl := Option.some.inj H
     go_wp2_with (first | ((with_reducible refine gate_callee (f := 20) rfl ?_); refine ge_ (some 85) rfl rfl Try.func20 (by kernel_rfl) rfl #[] rfl (h := ?_); (with_reducible refine (calamuslaw01_lives.calls k1  t175 _ A56.out).mono ?_); rintro e w57 ⟨rfl, hb⟩; refine ⟨_, rfl, ?_⟩; replace HB := Aside0.mk (below_step (by repeat (first | (with_reducible first | exact HB.out | apply below_alloc | apply pw_below_drewN | apply below_drew1 | refine below_set ?_ (IsS45.ge HI173.out) | refine below_set ?_ (IsS34.ge HI174.out)) | exact HB.out)) hb); replace HI173 := Aside0.mk (IsS45.below (by repeat (first | (with_reducible first | exact HI173.out | apply IsS45.alloc | apply IsS45.drewN | apply IsS45.drew | apply IsS45.set_0 | apply IsS45.set_1 | refine IsS45.far ?_ NB173_174.out _) | exact HI173.out)) hb); replace HI174 := Aside0.mk (IsS34.below (by repeat (first | (with_reducible first | exact HI174.out | apply IsS34.alloc | apply IsS34.drewN | apply IsS34.drew | apply IsS34.set_0 | apply IsS34.set_1 | refine IsS34.far ?_ NB174_173.out _) | exact HI174.out)) hb); (try clear hb); (try clear hb2); (try clear hk); (try clear hi)))
     go_ret
     exact ⟨er_, by repeat (first | (with_reducible first | exact HB.out | apply below_alloc | apply pw_below_drewN | apply below_drew1 | refine below_set ?_ (IsS45.ge HI173.out) | refine below_set ?_ (IsS34.ge HI174.out)) | exact HB.out)⟩

end Go.Proofs.Ytjobaaolohemgaa.PCodeReads
