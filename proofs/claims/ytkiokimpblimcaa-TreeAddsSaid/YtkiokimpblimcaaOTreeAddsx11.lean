/- Of the law calamus/calamuslaw11.TreeAdds: each function as a plain Lean function, with a proof that the call comes to it; the row. By wip/tpl/own_print.py. Conditions: none but the row's own. -/
import Derived.Test.YtkiokimpblimcaaOTreeAddsx0
import Derived.Test.YtkiokimpblimcaaOTreeAddsx5
import Derived.Test.YtkiokimpblimcaaOTreeAddsx7
import Derived.Test.YtkiokimpblimcaaOTreeAddsx8
import Derived.Test.YtkiokimpblimcaaOTreeAddsx9
import Derived.Test.YtkiokimpblimcaaOTreeAddsx10
namespace Go.Proofs.Ytkiokimpblimcaa.PTreeAdds
open Go.RowKit Go.Proofs.YtkiokimpblimcaaW.PrintWords Go.Proofs.YtkiokimpblimcaaW.PrintLast Go.Proofs.YtkiokimpblimcaaW.PrintMore
attribute [local go_sem] max2_int min2_int max_two min_two max_three min_three max_four min_four   -- for this text's walks alone
set_option linter.unusedVariables false
set_option linter.unusedSimpArgs false

/-! ### calamuslaw11_TreeAdds: function 8 -/
def calamuslaw11_TreeAdds.j0 : Nat → Bool → List (S69) → Int → Int → ByteArray → ByteArray → Int → Int → List (S69) → Int → Option (Bool)
 | 0, _, _, _, _, _, _, _, _, _, _ => none
 | k + 1, x22, x285000, x285001, x286000, x286001, x286002, x287000, x287001, x288000, x288001 => if x22 = true then ((calamuslaw11_lives.f k).bind fun t288 => (some t288)) else ((tree_Add.f k x285000 x285001 x286000 x286001 x286002 x287000 x287001).bind fun bt289 => ((calamusref11_Add.f k x285000 x285001 x286000 x286001 x286002 x287000 x287001).bind fun bt295 => ((tree_Right.f k x285000 x285001).bind fun t301 => ((calamusref11_Right.f k x285000 x285001).bind fun t302 => (if (t301 == t302) = true then ((calamusref11_Same.f k bt289.1 bt289.2.1 bt295.1 bt295.2.1).bind fun t303 => (if t303 = true then (if bt289.2.2 = bt295.2.2 then ((tree_Same.f k x285000 x285001 x288000 x288001).bind fun t304 => ((calamusref11_Same.f k x285000 x285001 x288000 x288001).bind fun t305 => (if (t304 == t305) = true then ((tree_Same.f k x285000 x285001 x285000 x285001).bind fun t306 => (if t306 = true then ((tree_New.f).bind fun bt307 => ((calamusref11_New.f).bind fun bt311 => ((calamusref11_Same.f k bt307.1 bt307.2 bt311.1 bt311.2).bind fun t315 => (if t315 = true then ((calamuslaw11_lives.f k).bind fun t316 => (some t316)) else (some false))))) else (some false))) else (some false)))) else (some false)) else (some false))) else (some false))))))
def calamuslaw11_TreeAdds.f (k : Nat) (l0_0 : List (S69)) (a0_1 : Int) (a1_0 : Int) (a1_1 : ByteArray) (a1_2 : ByteArray) (a2_0 : Int) (a2_1 : Int) (l3_0 : List (S69)) (a3_1 : Int) : Option (Bool) := if (l0_0.length : Int) > 1100 then (calamuslaw11_TreeAdds.j0 k true l0_0 a0_1 a1_0 a1_1 a1_2 a2_0 a2_1 l3_0 a3_1) else (calamuslaw11_TreeAdds.j0 k (decide ((l3_0.length : Int) > 1100)) l0_0 a0_1 a1_0 a1_1 a1_2 a2_0 a2_1 l3_0 a3_1)
theorem calamuslaw11_TreeAdds.mono_l : ∀ k, (∀ y0 y1 y2 y3 y4 y5 y6 y7 y8 y9, LeO (calamuslaw11_TreeAdds.j0 k y0 y1 y2 y3 y4 y5 y6 y7 y8 y9) (calamuslaw11_TreeAdds.j0 (k + 1) y0 y1 y2 y3 y4 y5 y6 y7 y8 y9))
 | 0 => fun _ _ _ _ _ _ _ _ _ _ r h => by simp [calamuslaw11_TreeAdds.j0] at h
 | k + 1 => by
  have ih0 := calamuslaw11_TreeAdds.mono_l k
  ·intro y0 y1 y2 y3 y4 y5 y6 y7 y8 y9
   unfold calamuslaw11_TreeAdds.j0
   repeat' first
   | (with_reducible exact ih0 _ _ _ _ _ _ _ _ _ _)
   | (with_reducible exact calamuslaw11_lives.mono _)
   | (with_reducible exact calamusref11_Add.mono _ _ _ _ _ _ _ _)
   | (with_reducible exact calamusref11_Right.mono _ _ _)
   | (with_reducible exact calamusref11_Same.mono _ _ _ _ _)
   | (with_reducible exact tree_Add.mono _ _ _ _ _ _ _ _)
   | (with_reducible exact tree_Right.mono _ _ _)
   | (with_reducible exact tree_Same.mono _ _ _ _ _)
   | (with_reducible exact LeO.refl _)
   | (with_reducible exact LeO.none _)
   | (with_reducible refine LeO.ite ?_ ?_)
   | (with_reducible refine LeO.bind ?_ (fun _ => ?_))
   | exact ih0 _ _ _ _ _ _ _ _ _ _
   | exact calamuslaw11_lives.mono _
   | exact calamusref11_Add.mono _ _ _ _ _ _ _ _
   | exact calamusref11_Right.mono _ _ _
   | exact calamusref11_Same.mono _ _ _ _ _
   | exact tree_Add.mono _ _ _ _ _ _ _ _
   | exact tree_Right.mono _ _ _
   | exact tree_Same.mono _ _ _ _ _
   | exact LeO.none _
   | refine LeO.ite ?_ ?_
   | refine LeO.bind ?_ (fun _ => ?_)
theorem calamuslaw11_TreeAdds.mono : ∀ a0 a1 a2 a3 a4 a5 a6 a7 a8 k, LeO (calamuslaw11_TreeAdds.f k a0 a1 a2 a3 a4 a5 a6 a7 a8) (calamuslaw11_TreeAdds.f (k + 1) a0 a1 a2 a3 a4 a5 a6 a7 a8) := by
 intro a0 a1 a2 a3 a4 a5 a6 a7 a8 k
 have ih0 := calamuslaw11_TreeAdds.mono_l k
 unfold calamuslaw11_TreeAdds.f
 repeat' first
   | (with_reducible exact ih0 _ _ _ _ _ _ _ _ _ _)
   | (with_reducible exact calamuslaw11_lives.mono _)
   | (with_reducible exact calamusref11_Add.mono _ _ _ _ _ _ _ _)
   | (with_reducible exact calamusref11_Right.mono _ _ _)
   | (with_reducible exact calamusref11_Same.mono _ _ _ _ _)
   | (with_reducible exact tree_Add.mono _ _ _ _ _ _ _ _)
   | (with_reducible exact tree_Right.mono _ _ _)
   | (with_reducible exact tree_Same.mono _ _ _ _ _)
   | (with_reducible exact LeO.refl _)
   | (with_reducible exact LeO.none _)
   | (with_reducible refine LeO.ite ?_ ?_)
   | (with_reducible refine LeO.bind ?_ (fun _ => ?_))
   | exact ih0 _ _ _ _ _ _ _ _ _ _
   | exact calamuslaw11_lives.mono _
   | exact calamusref11_Add.mono _ _ _ _ _ _ _ _
   | exact calamusref11_Right.mono _ _ _
   | exact calamusref11_Same.mono _ _ _ _ _
   | exact tree_Add.mono _ _ _ _ _ _ _ _
   | exact tree_Right.mono _ _ _
   | exact tree_Same.mono _ _ _ _ _
   | exact LeO.none _
   | refine LeO.ite ?_ ?_
   | refine LeO.bind ?_ (fun _ => ?_)
def calamuslaw11_TreeAdds.T5 : Bool × List (List Nat × List Nat) := (true, [([], []), ([0], [0]), ([], []), ([2, 1], [2]), ([1, 3], [1, 3]), ([4, 3], [4]), ([5], [5]), ([5], [5]), ([6, 7, 5, 5], [5, 6, 7]), ([5, 8], [5, 8]), ([9, 8], [9]), ([10], [10]), ([10], [10]), ([11, 12, 10], [10, 11, 12]), ([10, 13], [10, 13]), ([14, 10], [14]), ([15], [15]), ([15], [15]), ([16, 17, 15, 15], [15, 16, 17]), ([15], [15]), ([15], [15]), ([19, 20, 18, 15], [15, 19, 20]), ([18, 21, 15], [15, 18, 21]), ([15, 22], [15, 22]), ([23, 21], [23]), ([24], [24]), ([24], [24]), ([25, 26, 24, 24], [24, 25, 26]), ([24, 27], [24, 27]), ([28, 27], [28]), ([29, 29], [29]), ([30, 29], [29]), ([30, 31, 31, 29], [29, 30, 31]), ([29, 32], [29, 32]), ([33, 32], [33]), ([34, 34], [34]), ([34, 35], [34, 35]), ([36, 35, 0, 1, 2, 3, 4, 5, 6, 7, 8, 9, 10, 11, 12, 13, 14, 15, 16, 17, 18, 19, 20, 21, 22, 23, 24, 25, 26, 27, 28, 29, 30, 31, 32, 33, 34, 35, 36], [36])])
def calamuslaw11_TreeAdds.B5 : List Nat := [0, 1, 0, 7, 15, 31, 63, 63, 255, 511, 1023, 2047, 2047, 8191, 16383, 32767, 65535, 65535, 262143, 65535, 65535, 2097151, 4194303, 8388607, 16777215, 33554431, 33554431, 134217727, 268435455, 536870911, 1073741823, 2147483647, 4294967295, 8589934591, 17179869183, 34359738367, 68719476735, 137438953471]
theorem calamuslaw11_TreeAdds.tab5 : rtab .any (opsOf Try.f8 5) = calamuslaw11_TreeAdds.T5 := by kernel_rfl
theorem calamuslaw11_TreeAdds.bits5 : waitsOk calamuslaw11_TreeAdds.T5.2 calamuslaw11_TreeAdds.B5 = true := by kernel_rfl
set_option maxHeartbeats 8000000 in
set_option maxRecDepth 100000 in
theorem calamuslaw11_TreeAdds.calls (k : Nat) (A0_0 : Option Addr) (c0_0 : Nat) (l0_0 : List (S69)) (a0_1 : Int) (a1_0 : Int) (a1_1 : ByteArray) (a1_2 : ByteArray) (a2_0 : Int) (a2_1 : Int) (A3_0 : Option Addr) (c3_0 : Nat) (l3_0 : List (S69)) (a3_1 : Int) (r : Bool) (w : World) (hr0_0 : Kd.C k69 w A0_0 l0_0.length l0_0) (hc0_0 : l0_0.length ≤ c0_0) (hr3_0 : Kd.C k69 w A3_0 l3_0.length l3_0) (hc3_0 : l3_0.length ≤ c3_0) (h : calamuslaw11_TreeAdds.f k l0_0 a0_1 a1_0 a1_1 a1_2 a2_0 a2_1 l3_0 a3_1 = some r) (hr_ : r = true := by rfl) :
  Calls Try.prog 8 #[.agg #[.slice A0_0 l0_0.length c0_0, .int .i64 a0_1], .agg #[.int .i64 a1_0, .string a1_1, .string a1_2], .agg #[.int .i64 a2_0, .int .i64 a2_1], .agg #[.slice A3_0 l3_0.length c3_0, .int .i64 a3_1]] w fun e w' => e = .returned (.bool r) ∧ Below w.heap.size w w' := by
 have hu46 := Try.underlying46
 have hu24 := Try.underlying24
 have hu47 := Try.underlying47
 have HR0_0 := Aside0.mk hr0_0
 have HC0_0 := Aside0.mk hc0_0
 clear hr0_0 hc0_0
 have HR3_0 := Aside0.mk hr3_0
 have HC3_0 := Aside0.mk hc3_0
 clear hr3_0 hc3_0
 have HB := Aside0.mk (Below.refl w.heap.size w)
 have H : (if (l0_0.length : Int) > 1100 then (calamuslaw11_TreeAdds.j0 k true l0_0 a0_1 a1_0 a1_1 a1_2 a2_0 a2_1 l3_0 a3_1) else (calamuslaw11_TreeAdds.j0 k (decide ((l3_0.length : Int) > 1100)) l0_0 a0_1 a1_0 a1_1 a1_2 a2_0 a2_1 l3_0 a3_1)) = some r := h
 clear h
 have HC5 := Aside0.mk H
 clear H
 go_enter Try.func8, Try.ntmps8
 go_upto_region 1 with (first | ((with_reducible refine gate_dst (N := 4) rfl ?_); (try (refine gate_guard (by rfl) ?_; dsimp only)); refine be_ (N := 4) (cs := #[.slice A0_0 l0_0.length c0_0, .int .i64 a0_1]) (t := 46) (h := ?_); intro gb284 hg w6 hbox hb; have BK284 := Aside0.mk (hbox); have GW284 := gw_ HB hg; have GE284 := gw_ HB hg; replace HB := bs_ HB hb; clear hb hbox hg) | ((with_reducible refine gate_dst (N := 5) rfl ?_); (try (refine gate_guard (by rfl) ?_; dsimp only)); refine be_ (N := 5) (cs := #[.int .i64 a1_0, .string a1_1, .string a1_2]) (t := 24) (h := ?_); intro gb285 hg w7 hbox hb; have BK285 := Aside0.mk (hbox); have GW285 := gw_ HB hg; have GE285 := gw_ HB hg; have NB284_285 := ne_ BK284 hg; have NB285_284 := en_ BK284 hg; replace BK284 := bb_ BK284 hb; replace HB := bs_ HB hb; clear hb hbox hg) | ((with_reducible refine gate_dst (N := 6) rfl ?_); (try (refine gate_guard (by rfl) ?_; dsimp only)); refine be_ (N := 6) (cs := #[.int .i64 a2_0, .int .i64 a2_1]) (t := 47) (h := ?_); intro gb286 hg w8 hbox hb; have BK286 := Aside0.mk (hbox); have GW286 := gw_ HB hg; have GE286 := gw_ HB hg; have NB284_286 := ne_ BK284 hg; have NB286_284 := en_ BK284 hg; have NB285_286 := ne_ BK285 hg; have NB286_285 := en_ BK285 hg; replace BK284 := bb_ BK284 hb; replace BK285 := bb_ BK285 hb; replace HB := bs_ HB hb; clear hb hbox hg) | ((with_reducible refine gate_dst (N := 7) rfl ?_); (try (refine gate_guard (by rfl) ?_; dsimp only)); refine be_ (N := 7) (cs := #[.slice A3_0 l3_0.length c3_0, .int .i64 a3_1]) (t := 46) (h := ?_); intro gb287 hg w9 hbox hb; have BK287 := Aside0.mk (hbox); have GW287 := gw_ HB hg; have GE287 := gw_ HB hg; have NB284_287 := ne_ BK284 hg; have NB287_284 := en_ BK284 hg; have NB285_287 := ne_ BK285 hg; have NB287_285 := en_ BK285 hg; have NB286_287 := ne_ BK286 hg; have NB287_286 := en_ BK286 hg; replace BK284 := bb_ BK284 hb; replace BK285 := bb_ BK285 hb; replace BK286 := bb_ BK286 hb; replace HB := bs_ HB hb; clear hb hbox hg))
 (try simp only [Act.put, List.setIfInBounds_toArray, List.set_cons_zero, List.set_cons_succ])
 go_cut [22] (fun v22 wc => ∃ (kq : Nat) (x22_4 : Bool), v22 = .bool x22_4 ∧ Aside0 (calamuslaw11_TreeAdds.j0 kq x22_4 l0_0 a0_1 a1_0 a1_1 a1_2 a2_0 a2_1 l3_0 a3_1 = some r) ∧ Aside0 (kq ≤ k) ∧ Aside0 (wc.heap[gb284]? = some (.cells #[(.slice A0_0 l0_0.length c0_0), .int .i64 a0_1] 46 (0, 0))) ∧ Aside0 (wc.heap[gb285]? = some (.cells #[.int .i64 a1_0, .string a1_1, .string a1_2] 24 (0, 0))) ∧ Aside0 (wc.heap[gb286]? = some (.cells #[.int .i64 a2_0, .int .i64 a2_1] 47 (0, 0))) ∧ Aside0 (wc.heap[gb287]? = some (.cells #[(.slice A3_0 l3_0.length c3_0), .int .i64 a3_1] 46 (0, 0))) ∧ Aside0 (Below w.heap.size w wc))
 case first =>
  have H := HC5.out
  clear HC5
  by_cases c10 : (l0_0.length : Int) > 1100
  ·rw [if_pos c10] at H
   have c10b0 : decide (1100 < (l0_0.length : Int)) = true := decide_eq_true c10
   have c10b1 : decide (1100 < l0_0.length) = true := decide_eq_true (by omega)
   clear c10
   (first | rw [c10b0] | (simp only [i64_w, i32_w]; rw [c10b0]) | skip)
   have H' := Aside0.mk H
   clear H
   have hnb11 := NB284_285.out
   have hnc11 := NB285_284.out
   have hnb12 := NB284_286.out
   have hnc12 := NB286_284.out
   have hnb13 := NB284_287.out
   have hnc13 := NB287_284.out
   obtain ⟨hcz14_0, hcz14_1, hfz14_0, hfz14_1⟩ := bc2_ BK284
   go_wp2
   go_meet
   case rel => exact ⟨_, (true), es_, H', ⟨by first | omega | exact Nat.le_refl _⟩, ⟨bw_ BK284.out⟩, ⟨bw_ BK285.out⟩, ⟨bw_ BK286.out⟩, ⟨bw_ BK287.out⟩, ⟨hb_ HB⟩⟩
  ·rw [if_neg c10] at H
   have c10b0 : decide (1100 < (l0_0.length : Int)) = false := decide_eq_false c10
   have c10b1 : decide (1100 < l0_0.length) = false := decide_eq_false (by omega)
   clear c10
   (first | rw [c10b0] | (simp only [i64_w, i32_w]; rw [c10b0]) | skip)
   have H' := Aside0.mk H
   clear H
   have hnb15 := NB284_285.out
   have hnc15 := NB285_284.out
   have hnb16 := NB284_286.out
   have hnc16 := NB286_284.out
   have hnb17 := NB284_287.out
   have hnc17 := NB287_284.out
   obtain ⟨hcz18_0, hcz18_1, hfz18_0, hfz18_1⟩ := bc2_ BK284
   have hnb19 := NB287_285.out
   have hnc19 := NB285_287.out
   have hnb20 := NB287_286.out
   have hnc20 := NB286_287.out
   obtain ⟨hcz21_0, hcz21_1, hfz21_0, hfz21_1⟩ := bc2_ BK287
   go_wp2
   go_meet
   case rel => exact ⟨_, (decide ((l3_0.length : Int) > 1100)), es_, H', ⟨by first | omega | exact Nat.le_refl _⟩, ⟨bw_ BK284.out⟩, ⟨bw_ BK285.out⟩, ⟨bw_ BK286.out⟩, ⟨bw_ BK287.out⟩, ⟨hb_ HB⟩⟩
 case rest =>
  clear HC5
  obtain ⟨kq, x22_4, rfl, HA, HJ4, BK284, BK285, BK286, BK287, HB⟩ := hcut
  cases kq with
  | zero => exact absurd HA.out (by simp [calamuslaw11_TreeAdds.j0])
  | succ kj4 =>
   have H := HA.out
   clear HA
   simp only [calamuslaw11_TreeAdds.j0] at H
   by_cases c22 : x22_4 = true
   ·subst c22
    have H1 : ((calamuslaw11_lives.f kj4).bind fun t288 => (some t288)) = some r := by rw [if_pos rfl] at H; exact H
    clear H
    have H := H1
    clear H1
    replace H := Option.bind_eq_some_iff.mp H
    obtain ⟨t288, A230, H⟩ := H
    replace H : (some t288) = some r := H
    have A23 := Aside0.mk A230
    clear A230
    obtain rfl := Option.some.inj H
    go_wp2_with (first | ((with_reducible refine gate_callee (f := 33) rfl ?_); refine ge_ (some 23) rfl rfl Try.func33 (by kernel_rfl) rfl #[] rfl (h := ?_); (with_reducible refine (calamuslaw11_lives.calls kj4  t288 _ A23.out).mono ?_); rintro e w24 ⟨rfl, hb⟩; refine ⟨_, rfl, ?_⟩; replace BK284 := bb_ BK284 hb; replace BK285 := bb_ BK285 hb; replace BK286 := bb_ BK286 hb; replace BK287 := bb_ BK287 hb; replace HB := bs_ HB hb; (try clear hb); (try clear hb2); (try clear hk); (try clear hi)))
    go_ret
    exact ⟨er_, hb_ HB⟩
   ·replace c22 := Bool.eq_false_iff.mpr c22
    subst c22
    have H1 : ((tree_Add.f kj4 l0_0 a0_1 a1_0 a1_1 a1_2 a2_0 a2_1).bind fun bt289 => ((calamusref11_Add.f kj4 l0_0 a0_1 a1_0 a1_1 a1_2 a2_0 a2_1).bind fun bt295 => ((tree_Right.f kj4 l0_0 a0_1).bind fun t301 => ((calamusref11_Right.f kj4 l0_0 a0_1).bind fun t302 => (if (t301 == t302) = true then ((calamusref11_Same.f kj4 bt289.1 bt289.2.1 bt295.1 bt295.2.1).bind fun t303 => (if t303 = true then (if bt289.2.2 = bt295.2.2 then ((tree_Same.f kj4 l0_0 a0_1 l3_0 a3_1).bind fun t304 => ((calamusref11_Same.f kj4 l0_0 a0_1 l3_0 a3_1).bind fun t305 => (if (t304 == t305) = true then ((tree_Same.f kj4 l0_0 a0_1 l0_0 a0_1).bind fun t306 => (if t306 = true then ((tree_New.f).bind fun bt307 => ((calamusref11_New.f).bind fun bt311 => ((calamusref11_Same.f kj4 bt307.1 bt307.2 bt311.1 bt311.2).bind fun t315 => (if t315 = true then ((calamuslaw11_lives.f kj4).bind fun t316 => (some t316)) else (some false))))) else (some false))) else (some false)))) else (some false)) else (some false))) else (some false)))))) = some r := by rw [if_neg (show ¬ (false = true) by decide)] at H; exact H
    clear H
    have H := H1
    clear H1
    replace H := Option.bind_eq_some_iff.mp H
    obtain ⟨⟨t289, t292, t293⟩, A250, H⟩ := H
    replace H : ((calamusref11_Add.f kj4 l0_0 a0_1 a1_0 a1_1 a1_2 a2_0 a2_1).bind fun bt295 => ((tree_Right.f kj4 l0_0 a0_1).bind fun t301 => ((calamusref11_Right.f kj4 l0_0 a0_1).bind fun t302 => (if (t301 == t302) = true then ((calamusref11_Same.f kj4 t289 t292 bt295.1 bt295.2.1).bind fun t303 => (if t303 = true then (if t293 = bt295.2.2 then ((tree_Same.f kj4 l0_0 a0_1 l3_0 a3_1).bind fun t304 => ((calamusref11_Same.f kj4 l0_0 a0_1 l3_0 a3_1).bind fun t305 => (if (t304 == t305) = true then ((tree_Same.f kj4 l0_0 a0_1 l0_0 a0_1).bind fun t306 => (if t306 = true then ((tree_New.f).bind fun bt307 => ((calamusref11_New.f).bind fun bt311 => ((calamusref11_Same.f kj4 bt307.1 bt307.2 bt311.1 bt311.2).bind fun t315 => (if t315 = true then ((calamuslaw11_lives.f kj4).bind fun t316 => (some t316)) else (some false))))) else (some false))) else (some false)))) else (some false)) else (some false))) else (some false))))) = some r := H
    have A25 := Aside0.mk A250
    clear A250
    replace H := Option.bind_eq_some_iff.mp H
    obtain ⟨⟨t295, t298, t299⟩, A260, H⟩ := H
    replace H : ((tree_Right.f kj4 l0_0 a0_1).bind fun t301 => ((calamusref11_Right.f kj4 l0_0 a0_1).bind fun t302 => (if (t301 == t302) = true then ((calamusref11_Same.f kj4 t289 t292 t295 t298).bind fun t303 => (if t303 = true then (if t293 = t299 then ((tree_Same.f kj4 l0_0 a0_1 l3_0 a3_1).bind fun t304 => ((calamusref11_Same.f kj4 l0_0 a0_1 l3_0 a3_1).bind fun t305 => (if (t304 == t305) = true then ((tree_Same.f kj4 l0_0 a0_1 l0_0 a0_1).bind fun t306 => (if t306 = true then ((tree_New.f).bind fun bt307 => ((calamusref11_New.f).bind fun bt311 => ((calamusref11_Same.f kj4 bt307.1 bt307.2 bt311.1 bt311.2).bind fun t315 => (if t315 = true then ((calamuslaw11_lives.f kj4).bind fun t316 => (some t316)) else (some false))))) else (some false))) else (some false)))) else (some false)) else (some false))) else (some false)))) = some r := H
    have A26 := Aside0.mk A260
    clear A260
    replace H := Option.bind_eq_some_iff.mp H
    obtain ⟨t301, A270, H⟩ := H
    replace H : ((calamusref11_Right.f kj4 l0_0 a0_1).bind fun t302 => (if (t301 == t302) = true then ((calamusref11_Same.f kj4 t289 t292 t295 t298).bind fun t303 => (if t303 = true then (if t293 = t299 then ((tree_Same.f kj4 l0_0 a0_1 l3_0 a3_1).bind fun t304 => ((calamusref11_Same.f kj4 l0_0 a0_1 l3_0 a3_1).bind fun t305 => (if (t304 == t305) = true then ((tree_Same.f kj4 l0_0 a0_1 l0_0 a0_1).bind fun t306 => (if t306 = true then ((tree_New.f).bind fun bt307 => ((calamusref11_New.f).bind fun bt311 => ((calamusref11_Same.f kj4 bt307.1 bt307.2 bt311.1 bt311.2).bind fun t315 => (if t315 = true then ((calamuslaw11_lives.f kj4).bind fun t316 => (some t316)) else (some false))))) else (some false))) else (some false)))) else (some false)) else (some false))) else (some false))) = some r := H
    have A27 := Aside0.mk A270
    clear A270
    replace H := Option.bind_eq_some_iff.mp H
    obtain ⟨t302, A280, H⟩ := H
    replace H : (if (t301 == t302) = true then ((calamusref11_Same.f kj4 t289 t292 t295 t298).bind fun t303 => (if t303 = true then (if t293 = t299 then ((tree_Same.f kj4 l0_0 a0_1 l3_0 a3_1).bind fun t304 => ((calamusref11_Same.f kj4 l0_0 a0_1 l3_0 a3_1).bind fun t305 => (if (t304 == t305) = true then ((tree_Same.f kj4 l0_0 a0_1 l0_0 a0_1).bind fun t306 => (if t306 = true then ((tree_New.f).bind fun bt307 => ((calamusref11_New.f).bind fun bt311 => ((calamusref11_Same.f kj4 bt307.1 bt307.2 bt311.1 bt311.2).bind fun t315 => (if t315 = true then ((calamuslaw11_lives.f kj4).bind fun t316 => (some t316)) else (some false))))) else (some false))) else (some false)))) else (some false)) else (some false))) else (some false)) = some r := H
    have A28 := Aside0.mk A280
    clear A280
    by_cases c29 : (t301 == t302) = true
    ·rw [if_pos c29] at H
     have c29b0 : (t301 == t302) = true := c29
     (try (have c29b1 : decide (t301 = t302) = true := by simpa using c29))
     (try (have c29b2 : (t301 == t302) = true := by simpa using c29))
     clear c29
     replace H := Option.bind_eq_some_iff.mp H
     obtain ⟨t303, A300, H⟩ := H
     replace H : (if t303 = true then (if t293 = t299 then ((tree_Same.f kj4 l0_0 a0_1 l3_0 a3_1).bind fun t304 => ((calamusref11_Same.f kj4 l0_0 a0_1 l3_0 a3_1).bind fun t305 => (if (t304 == t305) = true then ((tree_Same.f kj4 l0_0 a0_1 l0_0 a0_1).bind fun t306 => (if t306 = true then ((tree_New.f).bind fun bt307 => ((calamusref11_New.f).bind fun bt311 => ((calamusref11_Same.f kj4 bt307.1 bt307.2 bt311.1 bt311.2).bind fun t315 => (if t315 = true then ((calamuslaw11_lives.f kj4).bind fun t316 => (some t316)) else (some false))))) else (some false))) else (some false)))) else (some false)) else (some false)) = some r := H
     have A30 := Aside0.mk A300
     clear A300
     by_cases c31 : t303 = true
     ·subst c31
      have H1 : (if t293 = t299 then ((tree_Same.f kj4 l0_0 a0_1 l3_0 a3_1).bind fun t304 => ((calamusref11_Same.f kj4 l0_0 a0_1 l3_0 a3_1).bind fun t305 => (if (t304 == t305) = true then ((tree_Same.f kj4 l0_0 a0_1 l0_0 a0_1).bind fun t306 => (if t306 = true then ((tree_New.f).bind fun bt307 => ((calamusref11_New.f).bind fun bt311 => ((calamusref11_Same.f kj4 bt307.1 bt307.2 bt311.1 bt311.2).bind fun t315 => (if t315 = true then ((calamuslaw11_lives.f kj4).bind fun t316 => (some t316)) else (some false))))) else (some false))) else (some false)))) else (some false)) = some r := by rw [if_pos rfl] at H; exact H
      clear H
      have H := H1
      clear H1
      by_cases c32 : t293 = t299
      ·rw [if_pos c32] at H
       have c32b0 : (t293 == t299) = true := beq_iff_eq.mpr c32
       have c32b1 : (t293 != t299) = false := bne_eq_false_iff_eq.mpr c32
       clear c32
       replace H := Option.bind_eq_some_iff.mp H
       obtain ⟨t304, A330, H⟩ := H
       replace H : ((calamusref11_Same.f kj4 l0_0 a0_1 l3_0 a3_1).bind fun t305 => (if (t304 == t305) = true then ((tree_Same.f kj4 l0_0 a0_1 l0_0 a0_1).bind fun t306 => (if t306 = true then ((tree_New.f).bind fun bt307 => ((calamusref11_New.f).bind fun bt311 => ((calamusref11_Same.f kj4 bt307.1 bt307.2 bt311.1 bt311.2).bind fun t315 => (if t315 = true then ((calamuslaw11_lives.f kj4).bind fun t316 => (some t316)) else (some false))))) else (some false))) else (some false))) = some r := H
       have A33 := Aside0.mk A330
       clear A330
       replace H := Option.bind_eq_some_iff.mp H
       obtain ⟨t305, A340, H⟩ := H
       replace H : (if (t304 == t305) = true then ((tree_Same.f kj4 l0_0 a0_1 l0_0 a0_1).bind fun t306 => (if t306 = true then ((tree_New.f).bind fun bt307 => ((calamusref11_New.f).bind fun bt311 => ((calamusref11_Same.f kj4 bt307.1 bt307.2 bt311.1 bt311.2).bind fun t315 => (if t315 = true then ((calamuslaw11_lives.f kj4).bind fun t316 => (some t316)) else (some false))))) else (some false))) else (some false)) = some r := H
       have A34 := Aside0.mk A340
       clear A340
       by_cases c35 : (t304 == t305) = true
       ·rw [if_pos c35] at H
        have c35b0 : (t304 == t305) = true := c35
        (try (have c35b1 : decide (t304 = t305) = true := by simpa using c35))
        (try (have c35b2 : (t304 == t305) = true := by simpa using c35))
        clear c35
        replace H := Option.bind_eq_some_iff.mp H
        obtain ⟨t306, A360, H⟩ := H
        replace H : (if t306 = true then ((tree_New.f).bind fun bt307 => ((calamusref11_New.f).bind fun bt311 => ((calamusref11_Same.f kj4 bt307.1 bt307.2 bt311.1 bt311.2).bind fun t315 => (if t315 = true then ((calamuslaw11_lives.f kj4).bind fun t316 => (some t316)) else (some false))))) else (some false)) = some r := H
        have A36 := Aside0.mk A360
        clear A360
        by_cases c37 : t306 = true
        ·subst c37
         have H1 : ((tree_New.f).bind fun bt307 => ((calamusref11_New.f).bind fun bt311 => ((calamusref11_Same.f kj4 bt307.1 bt307.2 bt311.1 bt311.2).bind fun t315 => (if t315 = true then ((calamuslaw11_lives.f kj4).bind fun t316 => (some t316)) else (some false))))) = some r := by rw [if_pos rfl] at H; exact H
         clear H
         have H := H1
         clear H1
         replace H := Option.bind_eq_some_iff.mp H
         obtain ⟨⟨t307, t310⟩, A380, H⟩ := H
         replace H : ((calamusref11_New.f).bind fun bt311 => ((calamusref11_Same.f kj4 t307 t310 bt311.1 bt311.2).bind fun t315 => (if t315 = true then ((calamuslaw11_lives.f kj4).bind fun t316 => (some t316)) else (some false)))) = some r := H
         have A38 := Aside0.mk A380
         clear A380
         replace H := Option.bind_eq_some_iff.mp H
         obtain ⟨⟨t311, t314⟩, A390, H⟩ := H
         replace H : ((calamusref11_Same.f kj4 t307 t310 t311 t314).bind fun t315 => (if t315 = true then ((calamuslaw11_lives.f kj4).bind fun t316 => (some t316)) else (some false))) = some r := H
         have A39 := Aside0.mk A390
         clear A390
         replace H := Option.bind_eq_some_iff.mp H
         obtain ⟨t315, A400, H⟩ := H
         replace H : (if t315 = true then ((calamuslaw11_lives.f kj4).bind fun t316 => (some t316)) else (some false)) = some r := H
         have A40 := Aside0.mk A400
         clear A400
         by_cases c41 : t315 = true
         ·subst c41
          have H1 : ((calamuslaw11_lives.f kj4).bind fun t316 => (some t316)) = some r := by rw [if_pos rfl] at H; exact H
          clear H
          have H := H1
          clear H1
          replace H := Option.bind_eq_some_iff.mp H
          obtain ⟨t316, A420, H⟩ := H
          replace H : (some t316) = some r := H
          have A42 := Aside0.mk A420
          clear A420
          obtain rfl := Option.some.inj H
          have hnb43 := NB284_285.out
          have hnc43 := NB285_284.out
          have hnb44 := NB284_286.out
          have hnc44 := NB286_284.out
          have hnb45 := NB284_287.out
          have hnc45 := NB287_284.out
          obtain ⟨hcz46_0, hcz46_1, hfz46_0, hfz46_1⟩ := bc2_ BK284
          have hnb47 := NB285_286.out
          have hnc47 := NB286_285.out
          have hnb48 := NB285_287.out
          have hnc48 := NB287_285.out
          obtain ⟨hcz49_0, hcz49_1, hcz49_2, hfz49_0, hfz49_1, hfz49_2⟩ := bc3_ BK285
          have hnb50 := NB286_287.out
          have hnc50 := NB287_286.out
          obtain ⟨hcz51_0, hcz51_1, hfz51_0, hfz51_1⟩ := bc2_ BK286
          try go_wp2_with (first | ((with_reducible refine gate_callee (f := 34) rfl ?_); refine ge_ (some 31) rfl rfl Try.func34 (by kernel_rfl) rfl #[.agg #[.slice A0_0 l0_0.length c0_0, .int .i64 a0_1], .agg #[.int .i64 a1_0, .string a1_1, .string a1_2], .int .i64 a2_0, .int .i64 a2_1] rfl (h := ?_); (with_reducible refine (tree_Add.calls kj4 _ _ l0_0 a0_1 a1_0 a1_1 a1_2 a2_0 a2_1 t289 t292 t293 _ ?side1 ?side2 A25.out).mono ?_); (case side1 => exact cw_ (Kd.C_below HR0_0.out HB.out)); (case side2 => exact HC0_0.out); rintro e w52 ⟨v290, rfl, ho0, hb⟩; refine ⟨_, rfl, ?_⟩; have HO291 := Aside0.mk (Kd.R_lower ho0 (below_size (hb_ HB))); replace BK284 := bb_ BK284 hb; replace BK285 := bb_ BK285 hb; replace BK286 := bb_ BK286 hb; replace BK287 := bb_ BK287 hb; replace HB := bs_ HB hb; (try clear hb); (try clear hb2); (try clear hk); (try clear hi); (try clear ho0)) | ((with_reducible refine gate_dst (N := 9) rfl ?_); (try (refine gate_guard (by rfl) ?_; dsimp only)); refine be_ (N := 9) (cs := #[.slice none 0 0, .int .i64 0]) (t := 46) (h := ?_); intro gb294 hg w53 hbox hb; have BK294 := Aside0.mk (hbox); have GW294 := gw_ HB hg; have GE294 := gw_ HB hg; have NB284_294 := ne_ BK284 hg; have NB294_284 := en_ BK284 hg; have NB285_294 := ne_ BK285 hg; have NB294_285 := en_ BK285 hg; have NB286_294 := ne_ BK286 hg; have NB294_286 := en_ BK286 hg; have NB287_294 := ne_ BK287 hg; have NB294_287 := en_ BK287 hg; replace HO291 := Aside0.mk (Kd.R_below (rw_ HO291.out) hb); replace BK284 := bb_ BK284 hb; replace BK285 := bb_ BK285 hb; replace BK286 := bb_ BK286 hb; replace BK287 := bb_ BK287 hb; replace HB := bs_ HB hb; clear hb hbox hg; obtain ⟨Ao54, co54, eo54⟩ := Kd.R_slice HO291.out; subst eo54; have hnb55 := NB294_284.out; have hnc55 := NB284_294.out; have hnb56 := NB294_285.out; have hnc56 := NB285_294.out; have hnb57 := NB294_286.out; have hnc57 := NB286_294.out; have hnb58 := NB294_287.out; have hnc58 := NB287_294.out; obtain ⟨hcz59_0, hcz59_1, hfz59_0, hfz59_1⟩ := bc2_ BK294; obtain ⟨hcz60_0, hcz60_1, hfz60_0, hfz60_1⟩ := bc2_ BK284; obtain ⟨hcz61_0, hcz61_1, hcz61_2, hfz61_0, hfz61_1, hfz61_2⟩ := bc3_ BK285; obtain ⟨hcz62_0, hcz62_1, hfz62_0, hfz62_1⟩ := bc2_ BK286) | ((with_reducible refine gate_callee (f := 35) rfl ?_); refine ge_ (some 41) rfl rfl Try.func35 (by kernel_rfl) rfl #[.agg #[.slice A0_0 l0_0.length c0_0, .int .i64 a0_1], .agg #[.int .i64 a1_0, .string a1_1, .string a1_2], .int .i64 a2_0, .int .i64 a2_1] rfl (h := ?_); (with_reducible refine (calamusref11_Add.calls kj4 _ _ l0_0 a0_1 a1_0 a1_1 a1_2 a2_0 a2_1 t295 t298 t299 _ ?side1 ?side2 A26.out).mono ?_); (case side1 => exact Kd.C_below HR0_0.out (hb_ HB)); (case side2 => exact HC0_0.out); rintro e w63 ⟨v296, rfl, ho0, hb⟩; refine ⟨_, rfl, ?_⟩; have HO297 := Aside0.mk (Kd.R_lower (Kd.R_new' ho0 (Kd.R_lt (by (with_reducible repeat (first | apply Kd.R_alloc | apply Kd.R_drewN | apply Kd.R_drew)); exact (Kd.R_mono (rf_ (Kd.R_types HO291.out BK294.out (by decide)) (fun _ hk => hk.2)) (fun _ h_ => h_.1))))) (below_size (hb_ HB))); replace HO291 := Aside0.mk (Kd.R_elder' (by (with_reducible repeat (first | apply Kd.R_alloc | apply Kd.R_drewN | apply Kd.R_drew)); exact (Kd.R_mono (rf_ (Kd.R_types HO291.out BK294.out (by decide)) (fun _ hk => hk.2)) (fun _ h_ => h_.1))) (Kd.R_base ho0) hb); replace BK284 := Aside0.mk (blk_below (g := gb284) (o := .cells #[.slice A0_0 l0_0.length c0_0, .int .i64 a0_1] 46 (0, 0)) (bp_ BK284.out) hb); replace BK285 := Aside0.mk (blk_below (g := gb285) (o := .cells #[.int .i64 a1_0, .string a1_1, .string a1_2] 24 (0, 0)) (bp_ BK285.out) hb); replace BK286 := Aside0.mk (blk_below (g := gb286) (o := .cells #[.int .i64 a2_0, .int .i64 a2_1] 47 (0, 0)) (bp_ BK286.out) hb); replace BK287 := Aside0.mk (blk_below (g := gb287) (o := .cells #[.slice A3_0 l3_0.length c3_0, .int .i64 a3_1] 46 (0, 0)) (bp_ BK287.out) hb); replace HB := bs_ HB hb; replace BK294 := Aside0.mk (blk_below (g := gb294) (o := .cells #[.slice Ao54 t289.length co54, .int .i64 t292] 46 (0, 0)) (bp_ BK294.out) hb); (try clear hb); (try clear hb2); (try clear hk); (try clear hi); (try clear ho0)) | ((with_reducible refine gate_dst (N := 11) rfl ?_); (try (refine gate_guard (by rfl) ?_; dsimp only)); refine be_ (N := 11) (cs := #[.slice none 0 0, .int .i64 0]) (t := 46) (h := ?_); intro gb300 hg w64 hbox hb; have BK300 := Aside0.mk (hbox); have GW300 := gw_ HB hg; have GE300 := gw_ HB hg; have NB284_300 := ne_ BK284 hg; have NB300_284 := en_ BK284 hg; have NB285_300 := ne_ BK285 hg; have NB300_285 := en_ BK285 hg; have NB286_300 := ne_ BK286 hg; have NB300_286 := en_ BK286 hg; have NB287_300 := ne_ BK287 hg; have NB300_287 := en_ BK287 hg; have NB294_300 := ne_ BK294 hg; have NB300_294 := en_ BK294 hg; replace HO291 := Aside0.mk (Kd.R_below (rw_ HO291.out) hb); replace HO297 := Aside0.mk (Kd.R_below (rw_ HO297.out) hb); replace BK284 := bb_ BK284 hb; replace BK285 := bb_ BK285 hb; replace BK286 := bb_ BK286 hb; replace BK287 := bb_ BK287 hb; replace BK294 := bb_ BK294 hb; replace HB := bs_ HB hb; clear hb hbox hg; obtain ⟨Ao65, co65, eo65⟩ := Kd.R_slice HO297.out; subst eo65; have hnb66 := NB300_284.out; have hnc66 := NB284_300.out; have hnb67 := NB300_285.out; have hnc67 := NB285_300.out; have hnb68 := NB300_286.out; have hnc68 := NB286_300.out; have hnb69 := NB300_287.out; have hnc69 := NB287_300.out; have hnb70 := NB300_294.out; have hnc70 := NB294_300.out; obtain ⟨hcz71_0, hcz71_1, hfz71_0, hfz71_1⟩ := bc2_ BK300))
          obtain ⟨w72, hW_⟩ : ∃ x, x = ((w64.setCell ⟨gb300, 0, none⟩ (.slice Ao65 t295.length co65)).setCell ⟨gb300, 1, none⟩ (.int .i64 t298)) := ⟨_, rfl⟩
          have n0_ : Aside0 (Kd.R k69 69 w72 w.heap.size (fun k_ => some k_ ≠ (.slice Ao65 t295.length co65 : Value).ownBlock) (.slice Ao54 t289.length co54) t289) := ⟨by rw [hW_]; (with_reducible repeat (first | apply Kd.R_alloc | apply Kd.R_drewN | apply Kd.R_drew)); exact Kd.R_mono (rf_ (Kd.R_types HO291.out BK300.out (by decide)) (fun _ hk => hk.2)) (fun _ hk => hk.1.2)⟩
          have n1_ : Aside0 (Kd.R k69 69 w72 w.heap.size (fun k_ => some k_ ≠ (.slice Ao54 t289.length co54 : Value).ownBlock) (.slice Ao65 t295.length co65) t295) := ⟨by rw [hW_]; (with_reducible repeat (first | apply Kd.R_alloc | apply Kd.R_drewN | apply Kd.R_drew)); exact Kd.R_mono (rf_ (Kd.R_types HO297.out BK300.out (by decide)) (fun _ hk => hk.2)) (fun _ hk => hk.1.2)⟩
          have n2_ : Aside0 (w72.heap[gb284]? = some (.cells #[.slice A0_0 l0_0.length c0_0, .int .i64 a0_1] 46 (0, 0))) := ⟨by rw [hW_]; exact bp_ BK284.out⟩
          have n3_ : Aside0 (w72.heap[gb285]? = some (.cells #[.int .i64 a1_0, .string a1_1, .string a1_2] 24 (0, 0))) := ⟨by rw [hW_]; exact bp_ BK285.out⟩
          have n4_ : Aside0 (w72.heap[gb286]? = some (.cells #[.int .i64 a2_0, .int .i64 a2_1] 47 (0, 0))) := ⟨by rw [hW_]; exact bp_ BK286.out⟩
          have n5_ : Aside0 (w72.heap[gb287]? = some (.cells #[.slice A3_0 l3_0.length c3_0, .int .i64 a3_1] 46 (0, 0))) := ⟨by rw [hW_]; exact bp_ BK287.out⟩
          have n6_ : Aside0 (w72.heap[gb294]? = some (.cells #[.slice Ao54 t289.length co54, .int .i64 t292] 46 (0, 0))) := ⟨by rw [hW_]; exact bp_ BK294.out⟩
          have n7_ : Aside0 (w72.heap[gb300]? = some (.cells #[.slice Ao65 t295.length co65, .int .i64 t298] 46 (0, 0))) := ⟨by rw [hW_]; exact bp_ BK300.out⟩
          have n8_ : Aside0 (Below w.heap.size w w72) := ⟨by rw [hW_]; exact hb_ HB⟩
          (try clear HO291)
          (try clear HO297)
          (try clear BK284)
          (try clear BK285)
          (try clear BK286)
          (try clear BK287)
          (try clear BK294)
          (try clear BK300)
          (try clear HB)
          rw [← hW_]; clear hW_
          have HO291 := n0_
          have HO297 := n1_
          have BK284 := n2_
          have BK285 := n3_
          have BK286 := n4_
          have BK287 := n5_
          have BK294 := n6_
          have BK300 := n7_
          have HB := n8_
          clear n0_ n1_ n2_ n3_ n4_ n5_ n6_ n7_ n8_
          have n0_ := Aside0.mk (Kd.R_drew HO291.out)
          have n1_ := Aside0.mk (Kd.R_drew HO297.out)
          have n2_ := Aside0.mk (blk_drew BK284.out)
          have n3_ := Aside0.mk (blk_drew BK285.out)
          have n4_ := Aside0.mk (blk_drew BK286.out)
          have n5_ := Aside0.mk (blk_drew BK287.out)
          have n6_ := Aside0.mk (blk_drew BK294.out)
          have n7_ := Aside0.mk (blk_drew BK300.out)
          have n8_ := Aside0.mk (below_drew1 HB.out)
          clear HO291
          clear HO297
          clear BK284
          clear BK285
          clear BK286
          clear BK287
          clear BK294
          clear BK300
          clear HB
          have HO291 := n0_
          have HO297 := n1_
          have BK284 := n2_
          have BK285 := n3_
          have BK286 := n4_
          have BK287 := n5_
          have BK294 := n6_
          have BK300 := n7_
          have HB := n8_
          clear n0_ n1_ n2_ n3_ n4_ n5_ n6_ n7_ n8_
          refine start_ (n := 38) (S := fun w' => w'.cell? ⟨gb284, 0, none⟩ = some (.slice A0_0 l0_0.length c0_0) ∧ w'.cell? ⟨gb284, 1, none⟩ = some (.int .i64 a0_1) ∧ w'.cell? ⟨gb294, 0, none⟩ = some (.slice Ao54 t289.length co54) ∧ w'.cell? ⟨gb294, 1, none⟩ = some (.int .i64 t292) ∧ w'.cell? ⟨gb300, 0, none⟩ = some (.slice Ao65 t295.length co65) ∧ w'.cell? ⟨gb300, 1, none⟩ = some (.int .i64 t298) ∧ w'.cell? ⟨gb287, 0, none⟩ = some (.slice A3_0 l3_0.length c3_0) ∧ w'.cell? ⟨gb287, 1, none⟩ = some (.int .i64 a3_1)) (ds := []) #[false, false, false, false, false, false, false, false, false, false, false, false, false, false, false, false, false, false, false, false, false, false, false, false, false, false, false, false, false, false, false, false, false, false, false, false, false, false] (by kernel_rfl) rfl rfl ⟨(blk_cell BK284.out 0).trans rfl, (blk_cell BK284.out 1).trans rfl, (blk_cell BK294.out 0).trans rfl, (blk_cell BK294.out 1).trans rfl, (blk_cell BK300.out 0).trans rfl, (blk_cell BK300.out 1).trans rfl, (blk_cell BK287.out 0).trans rfl, (blk_cell BK287.out 1).trans rfl⟩ (fun hHeld => ?_); refine with_tabW calamuslaw11_TreeAdds.tab5 calamuslaw11_TreeAdds.bits5 (fun HT_ HW_ => ?_)
          generalize w72.drew = w73 at HO291 HO297 BK284 BK285 BK286 BK287 BK294 BK300 HB hHeld ⊢
          refine take_ (i := 0) (N := some 44) (v := ?_) (a' := ?_) #[true, false, false, false, false, false, false, false, false, false, false, false, false, false, false, false, false, false, false, false, false, false, false, false, false, false, false, false, false, false, false, false, false, false, false, false, false, false] rfl rfl (take_ofW HT_.out HW_.out (by kernel_rfl)) (fun _ _ _ h => h) (Or.inl ⟨by rfl, ?_⟩) hHeld ?_ ?_
          rotate_left
          ·rintro w' ⟨s0, s1, s2, s3, s4, s5, s6, s7⟩
           go_simp
           with_reducible rfl
          rotate_left
          ·simp only [Act.put, List.setIfInBounds_toArray, List.set_cons_zero, List.set_cons_succ, i64_w, i32_w]
           rfl
          refine take_ (i := 2) (N := some 46) (v := ?_) (a' := ?_) #[true, false, true, false, false, false, false, false, false, false, false, false, false, false, false, false, false, false, false, false, false, false, false, false, false, false, false, false, false, false, false, false, false, false, false, false, false, false] rfl rfl (take_ofW HT_.out HW_.out (by kernel_rfl)) (fun _ _ _ h => h) (Or.inl ⟨by rfl, ?_⟩) hHeld ?_ ?_
          rotate_left
          ·rintro w' ⟨s0, s1, s2, s3, s4, s5, s6, s7⟩
           go_simp
           with_reducible rfl
          rotate_left
          ·simp only [Act.put, List.setIfInBounds_toArray, List.set_cons_zero, List.set_cons_succ, i64_w, i32_w]
           rfl
          refine one_ (i := 1) (N := some 45) #[true, true, true, false, false, false, false, false, false, false, false, false, false, false, false, false, false, false, false, false, false, false, false, false, false, false, false, false, false, false, false, false, false, false, false, false, false, false] rfl rfl (one_of HT_.out (by kernel_rfl)) (by decide) (fun K hK => ?_)
          refine goes_ Try.func36 (by kernel_rfl) rfl #[.agg #[.slice A0_0 l0_0.length c0_0, .int .i64 a0_1]] (by rfl) rfl rfl (by (try simp only [List.map_toArray, List.map_cons, List.map_nil]); first | done | rfl | (simp only [List.length_drop, List.length_take]; rfl)) ?_
          with_reducible refine (tree_Right.calls kj4 _ _ l0_0 a0_1 t301 _ ?side1 ?side2 A27.out).mono ?_
          (case side1 => exact cw_ (Kd.C_below HR0_0.out HB.out))
          (case side2 => exact HC0_0.out)
          rintro e w74 ⟨rfl, hb⟩
          refine ⟨_, rfl, ?_⟩
          have n0_ := Aside0.mk (Kd.R_below (rw_ HO291.out) hb)
          have n1_ := Aside0.mk (Kd.R_below (rw_ HO297.out) hb)
          have n2_ := bb_ BK284 hb
          have n3_ := bb_ BK285 hb
          have n4_ := bb_ BK286 hb
          have n5_ := bb_ BK287 hb
          have n6_ := bb_ BK294 hb
          have n7_ := bb_ BK300 hb
          have n8_ := bs_ HB hb
          clear HO291
          clear HO297
          clear BK284
          clear BK285
          clear BK286
          clear BK287
          clear BK294
          clear BK300
          clear HB
          have HO291 := n0_
          have HO297 := n1_
          have BK284 := n2_
          have BK285 := n3_
          have BK286 := n4_
          have BK287 := n5_
          have BK294 := n6_
          have BK300 := n7_
          have HB := n8_
          clear n0_ n1_ n2_ n3_ n4_ n5_ n6_ n7_ n8_
          (try clear hb)
          (try clear hb2)
          (try clear hk)
          (try clear hi)
          refine hK.out _ _ ⟨(blk_cell BK284.out 0).trans rfl, (blk_cell BK284.out 1).trans rfl, (blk_cell BK294.out 0).trans rfl, (blk_cell BK294.out 1).trans rfl, (blk_cell BK300.out 0).trans rfl, (blk_cell BK300.out 1).trans rfl, (blk_cell BK287.out 0).trans rfl, (blk_cell BK287.out 1).trans rfl⟩ (fun hHeld => ?_)
          clear hK K
          refine norm_ (a' := ?_) ?_ ?_
          rotate_left
          ·show Act.put _ (some 45) _ = _
           simp only [Act.put, List.setIfInBounds_toArray, List.set_cons_zero, List.set_cons_succ, i64_w, i32_w]
           rfl
          refine one_ (i := 3) (N := some 47) #[true, true, true, true, false, false, false, false, false, false, false, false, false, false, false, false, false, false, false, false, false, false, false, false, false, false, false, false, false, false, false, false, false, false, false, false, false, false] rfl rfl (one_of HT_.out (by kernel_rfl)) (by decide) (fun K hK => ?_)
          refine goes_ Try.func37 (by kernel_rfl) rfl #[.agg #[.slice A0_0 l0_0.length c0_0, .int .i64 a0_1]] (by rfl) rfl rfl (by (try simp only [List.map_toArray, List.map_cons, List.map_nil]); first | done | rfl | (simp only [List.length_drop, List.length_take]; rfl)) ?_
          with_reducible refine (calamusref11_Right.calls kj4 _ _ l0_0 a0_1 t302 _ ?side1 ?side2 A28.out).mono ?_
          (case side1 => exact cw_ (Kd.C_below HR0_0.out HB.out))
          (case side2 => exact HC0_0.out)
          rintro e w75 ⟨rfl, hb⟩
          refine ⟨_, rfl, ?_⟩
          have n0_ := Aside0.mk (Kd.R_below (rw_ HO291.out) hb)
          have n1_ := Aside0.mk (Kd.R_below (rw_ HO297.out) hb)
          have n2_ := bb_ BK284 hb
          have n3_ := bb_ BK285 hb
          have n4_ := bb_ BK286 hb
          have n5_ := bb_ BK287 hb
          have n6_ := bb_ BK294 hb
          have n7_ := bb_ BK300 hb
          have n8_ := bs_ HB hb
          clear HO291
          clear HO297
          clear BK284
          clear BK285
          clear BK286
          clear BK287
          clear BK294
          clear BK300
          clear HB
          have HO291 := n0_
          have HO297 := n1_
          have BK284 := n2_
          have BK285 := n3_
          have BK286 := n4_
          have BK287 := n5_
          have BK294 := n6_
          have BK300 := n7_
          have HB := n8_
          clear n0_ n1_ n2_ n3_ n4_ n5_ n6_ n7_ n8_
          (try clear hb)
          (try clear hb2)
          (try clear hk)
          (try clear hi)
          refine hK.out _ _ ⟨(blk_cell BK284.out 0).trans rfl, (blk_cell BK284.out 1).trans rfl, (blk_cell BK294.out 0).trans rfl, (blk_cell BK294.out 1).trans rfl, (blk_cell BK300.out 0).trans rfl, (blk_cell BK300.out 1).trans rfl, (blk_cell BK287.out 0).trans rfl, (blk_cell BK287.out 1).trans rfl⟩ (fun hHeld => ?_)
          clear hK K
          refine norm_ (a' := ?_) ?_ ?_
          rotate_left
          ·show Act.put _ (some 47) _ = _
           simp only [Act.put, List.setIfInBounds_toArray, List.set_cons_zero, List.set_cons_succ, i64_w, i32_w]
           rfl
          refine pp_ (i := 4) (N := some 48) #[true, true, true, true, true, false, false, false, false, false, false, false, false, false, false, false, false, false, false, false, false, false, false, false, false, false, false, false, false, false, false, false, false, false, false, false, false, false] rfl rfl (any_of HT_.out (by kernel_rfl)) (h := ?_)
          refine pp_ (i := 5) (N := some 49) #[true, true, true, true, true, true, false, false, false, false, false, false, false, false, false, false, false, false, false, false, false, false, false, false, false, false, false, false, false, false, false, false, false, false, false, false, false, false] rfl rfl (any_of HT_.out (by kernel_rfl)) (h := ?_)
          refine take_ (i := 6) (N := some 50) (v := ?_) (a' := ?_) #[true, true, true, true, true, true, true, false, false, false, false, false, false, false, false, false, false, false, false, false, false, false, false, false, false, false, false, false, false, false, false, false, false, false, false, false, false, false] rfl rfl (take_ofW HT_.out HW_.out (by kernel_rfl)) (fun _ _ _ h => h) (Or.inl ⟨by rfl, ?_⟩) hHeld ?_ ?_
          rotate_left
          ·rintro w' ⟨s0, s1, s2, s3, s4, s5, s6, s7⟩
           go_simp
           with_reducible rfl
          rotate_left
          ·simp only [Act.put, List.setIfInBounds_toArray, List.set_cons_zero, List.set_cons_succ, i64_w, i32_w]
           rfl
          refine take_ (i := 7) (N := some 51) (v := ?_) (a' := ?_) #[true, true, true, true, true, true, true, true, false, false, false, false, false, false, false, false, false, false, false, false, false, false, false, false, false, false, false, false, false, false, false, false, false, false, false, false, false, false] rfl rfl (take_ofW HT_.out HW_.out (by kernel_rfl)) (fun _ _ _ h => h) (Or.inl ⟨by rfl, ?_⟩) hHeld ?_ ?_
          rotate_left
          ·rintro w' ⟨s0, s1, s2, s3, s4, s5, s6, s7⟩
           go_simp
           with_reducible rfl
          rotate_left
          ·simp only [Act.put, List.setIfInBounds_toArray, List.set_cons_zero, List.set_cons_succ, i64_w, i32_w]
           rfl
          refine one_ (i := 8) (N := some 52) #[true, true, true, true, true, true, true, true, true, false, false, false, false, false, false, false, false, false, false, false, false, false, false, false, false, false, false, false, false, false, false, false, false, false, false, false, false, false] rfl rfl (one_of HT_.out (by kernel_rfl)) (by decide) (fun K hK => ?_)
          refine goes_ Try.func38 (by kernel_rfl) rfl #[.agg #[.slice Ao54 t289.length co54, .int .i64 t292], .agg #[.slice Ao65 t295.length co65, .int .i64 t298]] (by rfl) rfl rfl (by (try simp only [List.map_toArray, List.map_cons, List.map_nil]); first | done | rfl | (simp only [List.length_drop, List.length_take]; rfl)) ?_
          with_reducible refine (calamusref11_Same.calls kj4 _ _ t289 t292 _ _ t295 t298 true _ ?side1 ?side2 ?side3 ?side4 A30.out).mono ?_
          (case side1 => repeat (first | exact (Kd.R_reads' HO291.out).2.2 | (with_reducible refine Kd.C_alloc ?_ _) | (with_reducible refine Kd.C_drewN ?_ _) | (with_reducible refine Kd.C_drew ?_)))
          (case side2 => exact (Kd.R_reads' HO291.out).2.1)
          (case side3 => repeat (first | exact (Kd.R_reads' HO297.out).2.2 | (with_reducible refine Kd.C_alloc ?_ _) | (with_reducible refine Kd.C_drewN ?_ _) | (with_reducible refine Kd.C_drew ?_)))
          (case side4 => exact (Kd.R_reads' HO297.out).2.1)
          rintro e w76 ⟨rfl, hb⟩
          refine ⟨_, rfl, ?_⟩
          have n0_ := Aside0.mk (Kd.R_below (rw_ HO291.out) hb)
          have n1_ := Aside0.mk (Kd.R_below (rw_ HO297.out) hb)
          have n2_ := bb_ BK284 hb
          have n3_ := bb_ BK285 hb
          have n4_ := bb_ BK286 hb
          have n5_ := bb_ BK287 hb
          have n6_ := bb_ BK294 hb
          have n7_ := bb_ BK300 hb
          have n8_ := bs_ HB hb
          clear HO291
          clear HO297
          clear BK284
          clear BK285
          clear BK286
          clear BK287
          clear BK294
          clear BK300
          clear HB
          have HO291 := n0_
          have HO297 := n1_
          have BK284 := n2_
          have BK285 := n3_
          have BK286 := n4_
          have BK287 := n5_
          have BK294 := n6_
          have BK300 := n7_
          have HB := n8_
          clear n0_ n1_ n2_ n3_ n4_ n5_ n6_ n7_ n8_
          (try clear hb)
          (try clear hb2)
          (try clear hk)
          (try clear hi)
          refine hK.out _ _ ⟨(blk_cell BK284.out 0).trans rfl, (blk_cell BK284.out 1).trans rfl, (blk_cell BK294.out 0).trans rfl, (blk_cell BK294.out 1).trans rfl, (blk_cell BK300.out 0).trans rfl, (blk_cell BK300.out 1).trans rfl, (blk_cell BK287.out 0).trans rfl, (blk_cell BK287.out 1).trans rfl⟩ (fun hHeld => ?_)
          clear hK K
          refine norm_ (a' := ?_) ?_ ?_
          rotate_left
          ·show Act.put _ (some 52) _ = _
           simp only [Act.put, List.setIfInBounds_toArray, List.set_cons_zero, List.set_cons_succ, i64_w, i32_w]
           rfl
          refine pp_ (i := 9) (N := some 53) #[true, true, true, true, true, true, true, true, true, true, false, false, false, false, false, false, false, false, false, false, false, false, false, false, false, false, false, false, false, false, false, false, false, false, false, false, false, false] rfl rfl (any_of HT_.out (by kernel_rfl)) (h := ?_)
          refine pp_ (i := 10) (N := some 54) #[true, true, true, true, true, true, true, true, true, true, true, false, false, false, false, false, false, false, false, false, false, false, false, false, false, false, false, false, false, false, false, false, false, false, false, false, false, false] rfl rfl (any_of HT_.out (by kernel_rfl)) (h := ?_)
          refine pp_ (i := 11) (N := some 55) #[true, true, true, true, true, true, true, true, true, true, true, true, false, false, false, false, false, false, false, false, false, false, false, false, false, false, false, false, false, false, false, false, false, false, false, false, false, false] rfl rfl (any_of HT_.out (by kernel_rfl)) (h := ?_)
          refine pp_ (i := 12) (N := some 56) #[true, true, true, true, true, true, true, true, true, true, true, true, true, false, false, false, false, false, false, false, false, false, false, false, false, false, false, false, false, false, false, false, false, false, false, false, false, false] rfl rfl (any_of HT_.out (by kernel_rfl)) (h := ?_)
          refine pp_ (i := 13) (N := some 57) #[true, true, true, true, true, true, true, true, true, true, true, true, true, true, false, false, false, false, false, false, false, false, false, false, false, false, false, false, false, false, false, false, false, false, false, false, false, false] rfl rfl (any_of HT_.out (by kernel_rfl)) (h := ?_)
          refine pp_ (i := 14) (N := some 58) #[true, true, true, true, true, true, true, true, true, true, true, true, true, true, true, false, false, false, false, false, false, false, false, false, false, false, false, false, false, false, false, false, false, false, false, false, false, false] rfl rfl (any_of HT_.out (by kernel_rfl)) (h := ?_)
          refine pp_ (i := 15) (N := some 59) #[true, true, true, true, true, true, true, true, true, true, true, true, true, true, true, true, false, false, false, false, false, false, false, false, false, false, false, false, false, false, false, false, false, false, false, false, false, false] rfl rfl (any_of HT_.out (by kernel_rfl)) (h := ?_)
          refine take_ (i := 16) (N := some 60) (v := ?_) (a' := ?_) #[true, true, true, true, true, true, true, true, true, true, true, true, true, true, true, true, true, false, false, false, false, false, false, false, false, false, false, false, false, false, false, false, false, false, false, false, false, false] rfl rfl (take_ofW HT_.out HW_.out (by kernel_rfl)) (fun _ _ _ h => h) (Or.inl ⟨by rfl, ?_⟩) hHeld ?_ ?_
          rotate_left
          ·rintro w' ⟨s0, s1, s2, s3, s4, s5, s6, s7⟩
           go_simp
           with_reducible rfl
          rotate_left
          ·simp only [Act.put, List.setIfInBounds_toArray, List.set_cons_zero, List.set_cons_succ, i64_w, i32_w]
           rfl
          refine take_ (i := 17) (N := some 61) (v := ?_) (a' := ?_) #[true, true, true, true, true, true, true, true, true, true, true, true, true, true, true, true, true, true, false, false, false, false, false, false, false, false, false, false, false, false, false, false, false, false, false, false, false, false] rfl rfl (take_ofW HT_.out HW_.out (by kernel_rfl)) (fun _ _ _ h => h) (Or.inl ⟨by rfl, ?_⟩) hHeld ?_ ?_
          rotate_left
          ·rintro w' ⟨s0, s1, s2, s3, s4, s5, s6, s7⟩
           go_simp
           with_reducible rfl
          rotate_left
          ·simp only [Act.put, List.setIfInBounds_toArray, List.set_cons_zero, List.set_cons_succ, i64_w, i32_w]
           rfl
          refine take_ (i := 19) (N := some 63) (v := ?_) (a' := ?_) #[true, true, true, true, true, true, true, true, true, true, true, true, true, true, true, true, true, true, false, true, false, false, false, false, false, false, false, false, false, false, false, false, false, false, false, false, false, false] rfl rfl (take_ofW HT_.out HW_.out (by kernel_rfl)) (fun _ _ _ h => h) (Or.inl ⟨by rfl, ?_⟩) hHeld ?_ ?_
          rotate_left
          ·rintro w' ⟨s0, s1, s2, s3, s4, s5, s6, s7⟩
           go_simp
           with_reducible rfl
          rotate_left
          ·simp only [Act.put, List.setIfInBounds_toArray, List.set_cons_zero, List.set_cons_succ, i64_w, i32_w]
           rfl
          refine take_ (i := 20) (N := some 64) (v := ?_) (a' := ?_) #[true, true, true, true, true, true, true, true, true, true, true, true, true, true, true, true, true, true, false, true, true, false, false, false, false, false, false, false, false, false, false, false, false, false, false, false, false, false] rfl rfl (take_ofW HT_.out HW_.out (by kernel_rfl)) (fun _ _ _ h => h) (Or.inl ⟨by rfl, ?_⟩) hHeld ?_ ?_
          rotate_left
          ·rintro w' ⟨s0, s1, s2, s3, s4, s5, s6, s7⟩
           go_simp
           with_reducible rfl
          rotate_left
          ·simp only [Act.put, List.setIfInBounds_toArray, List.set_cons_zero, List.set_cons_succ, i64_w, i32_w]
           rfl
          refine one_ (i := 18) (N := some 62) #[true, true, true, true, true, true, true, true, true, true, true, true, true, true, true, true, true, true, true, true, true, false, false, false, false, false, false, false, false, false, false, false, false, false, false, false, false, false] rfl rfl (one_of HT_.out (by kernel_rfl)) (by decide) (fun K hK => ?_)
          refine goes_ Try.func39 (by kernel_rfl) rfl #[.agg #[.slice A0_0 l0_0.length c0_0, .int .i64 a0_1], .agg #[.slice A3_0 l3_0.length c3_0, .int .i64 a3_1]] (by rfl) rfl rfl (by (try simp only [List.map_toArray, List.map_cons, List.map_nil]); first | done | rfl | (simp only [List.length_drop, List.length_take]; rfl)) ?_
          with_reducible refine (tree_Same.calls kj4 _ _ l0_0 a0_1 _ _ l3_0 a3_1 t304 _ ?side1 ?side2 ?side3 ?side4 A33.out).mono ?_
          (case side1 => exact cw_ (Kd.C_below HR0_0.out HB.out))
          (case side2 => exact HC0_0.out)
          (case side3 => exact cw_ (Kd.C_below HR3_0.out HB.out))
          (case side4 => exact HC3_0.out)
          rintro e w77 ⟨rfl, hb⟩
          refine ⟨_, rfl, ?_⟩
          have n0_ := Aside0.mk (Kd.R_below (rw_ HO291.out) hb)
          have n1_ := Aside0.mk (Kd.R_below (rw_ HO297.out) hb)
          have n2_ := bb_ BK284 hb
          have n3_ := bb_ BK285 hb
          have n4_ := bb_ BK286 hb
          have n5_ := bb_ BK287 hb
          have n6_ := bb_ BK294 hb
          have n7_ := bb_ BK300 hb
          have n8_ := bs_ HB hb
          clear HO291
          clear HO297
          clear BK284
          clear BK285
          clear BK286
          clear BK287
          clear BK294
          clear BK300
          clear HB
          have HO291 := n0_
          have HO297 := n1_
          have BK284 := n2_
          have BK285 := n3_
          have BK286 := n4_
          have BK287 := n5_
          have BK294 := n6_
          have BK300 := n7_
          have HB := n8_
          clear n0_ n1_ n2_ n3_ n4_ n5_ n6_ n7_ n8_
          (try clear hb)
          (try clear hb2)
          (try clear hk)
          (try clear hi)
          refine hK.out _ _ ⟨(blk_cell BK284.out 0).trans rfl, (blk_cell BK284.out 1).trans rfl, (blk_cell BK294.out 0).trans rfl, (blk_cell BK294.out 1).trans rfl, (blk_cell BK300.out 0).trans rfl, (blk_cell BK300.out 1).trans rfl, (blk_cell BK287.out 0).trans rfl, (blk_cell BK287.out 1).trans rfl⟩ (fun hHeld => ?_)
          clear hK K
          refine norm_ (a' := ?_) ?_ ?_
          rotate_left
          ·show Act.put _ (some 62) _ = _
           simp only [Act.put, List.setIfInBounds_toArray, List.set_cons_zero, List.set_cons_succ, i64_w, i32_w]
           rfl
          refine one_ (i := 21) (N := some 65) #[true, true, true, true, true, true, true, true, true, true, true, true, true, true, true, true, true, true, true, true, true, true, false, false, false, false, false, false, false, false, false, false, false, false, false, false, false, false] rfl rfl (one_of HT_.out (by kernel_rfl)) (by decide) (fun K hK => ?_)
          refine goes_ Try.func38 (by kernel_rfl) rfl #[.agg #[.slice A0_0 l0_0.length c0_0, .int .i64 a0_1], .agg #[.slice A3_0 l3_0.length c3_0, .int .i64 a3_1]] (by rfl) rfl rfl (by (try simp only [List.map_toArray, List.map_cons, List.map_nil]); first | done | rfl | (simp only [List.length_drop, List.length_take]; rfl)) ?_
          with_reducible refine (calamusref11_Same.calls kj4 _ _ l0_0 a0_1 _ _ l3_0 a3_1 t305 _ ?side1 ?side2 ?side3 ?side4 A34.out).mono ?_
          (case side1 => exact cw_ (Kd.C_below HR0_0.out HB.out))
          (case side2 => exact HC0_0.out)
          (case side3 => exact cw_ (Kd.C_below HR3_0.out HB.out))
          (case side4 => exact HC3_0.out)
          rintro e w78 ⟨rfl, hb⟩
          refine ⟨_, rfl, ?_⟩
          have n0_ := Aside0.mk (Kd.R_below (rw_ HO291.out) hb)
          have n1_ := Aside0.mk (Kd.R_below (rw_ HO297.out) hb)
          have n2_ := bb_ BK284 hb
          have n3_ := bb_ BK285 hb
          have n4_ := bb_ BK286 hb
          have n5_ := bb_ BK287 hb
          have n6_ := bb_ BK294 hb
          have n7_ := bb_ BK300 hb
          have n8_ := bs_ HB hb
          clear HO291
          clear HO297
          clear BK284
          clear BK285
          clear BK286
          clear BK287
          clear BK294
          clear BK300
          clear HB
          have HO291 := n0_
          have HO297 := n1_
          have BK284 := n2_
          have BK285 := n3_
          have BK286 := n4_
          have BK287 := n5_
          have BK294 := n6_
          have BK300 := n7_
          have HB := n8_
          clear n0_ n1_ n2_ n3_ n4_ n5_ n6_ n7_ n8_
          (try clear hb)
          (try clear hb2)
          (try clear hk)
          (try clear hi)
          refine hK.out _ _ ⟨(blk_cell BK284.out 0).trans rfl, (blk_cell BK284.out 1).trans rfl, (blk_cell BK294.out 0).trans rfl, (blk_cell BK294.out 1).trans rfl, (blk_cell BK300.out 0).trans rfl, (blk_cell BK300.out 1).trans rfl, (blk_cell BK287.out 0).trans rfl, (blk_cell BK287.out 1).trans rfl⟩ (fun hHeld => ?_)
          clear hK K
          refine norm_ (a' := ?_) ?_ ?_
          rotate_left
          ·show Act.put _ (some 65) _ = _
           simp only [Act.put, List.setIfInBounds_toArray, List.set_cons_zero, List.set_cons_succ, i64_w, i32_w]
           rfl
          refine pp_ (i := 22) (N := some 66) #[true, true, true, true, true, true, true, true, true, true, true, true, true, true, true, true, true, true, true, true, true, true, true, false, false, false, false, false, false, false, false, false, false, false, false, false, false, false] rfl rfl (any_of HT_.out (by kernel_rfl)) (h := ?_)
          refine pp_ (i := 23) (N := some 67) #[true, true, true, true, true, true, true, true, true, true, true, true, true, true, true, true, true, true, true, true, true, true, true, true, false, false, false, false, false, false, false, false, false, false, false, false, false, false] rfl rfl (any_of HT_.out (by kernel_rfl)) (h := ?_)
          refine pp_ (i := 24) (N := some 68) #[true, true, true, true, true, true, true, true, true, true, true, true, true, true, true, true, true, true, true, true, true, true, true, true, true, false, false, false, false, false, false, false, false, false, false, false, false, false] rfl rfl (any_of HT_.out (by kernel_rfl)) (h := ?_)
          refine take_ (i := 25) (N := some 69) (v := ?_) (a' := ?_) #[true, true, true, true, true, true, true, true, true, true, true, true, true, true, true, true, true, true, true, true, true, true, true, true, true, true, false, false, false, false, false, false, false, false, false, false, false, false] rfl rfl (take_ofW HT_.out HW_.out (by kernel_rfl)) (fun _ _ _ h => h) (Or.inl ⟨by rfl, ?_⟩) hHeld ?_ ?_
          rotate_left
          ·rintro w' ⟨s0, s1, s2, s3, s4, s5, s6, s7⟩
           go_simp
           with_reducible rfl
          rotate_left
          ·simp only [Act.put, List.setIfInBounds_toArray, List.set_cons_zero, List.set_cons_succ, i64_w, i32_w]
           rfl
          refine take_ (i := 26) (N := some 70) (v := ?_) (a' := ?_) #[true, true, true, true, true, true, true, true, true, true, true, true, true, true, true, true, true, true, true, true, true, true, true, true, true, true, true, false, false, false, false, false, false, false, false, false, false, false] rfl rfl (take_ofW HT_.out HW_.out (by kernel_rfl)) (fun _ _ _ h => h) (Or.inl ⟨by rfl, ?_⟩) hHeld ?_ ?_
          rotate_left
          ·rintro w' ⟨s0, s1, s2, s3, s4, s5, s6, s7⟩
           go_simp
           with_reducible rfl
          rotate_left
          ·simp only [Act.put, List.setIfInBounds_toArray, List.set_cons_zero, List.set_cons_succ, i64_w, i32_w]
           rfl
          refine one_ (i := 27) (N := some 71) #[true, true, true, true, true, true, true, true, true, true, true, true, true, true, true, true, true, true, true, true, true, true, true, true, true, true, true, true, false, false, false, false, false, false, false, false, false, false] rfl rfl (one_of HT_.out (by kernel_rfl)) (by decide) (fun K hK => ?_)
          refine goes_ Try.func39 (by kernel_rfl) rfl #[.agg #[.slice A0_0 l0_0.length c0_0, .int .i64 a0_1], .agg #[.slice A0_0 l0_0.length c0_0, .int .i64 a0_1]] (by rfl) rfl rfl (by (try simp only [List.map_toArray, List.map_cons, List.map_nil]); first | done | rfl | (simp only [List.length_drop, List.length_take]; rfl)) ?_
          with_reducible refine (tree_Same.calls kj4 _ _ l0_0 a0_1 _ _ l0_0 a0_1 true _ ?side1 ?side2 ?side3 ?side4 A36.out).mono ?_
          (case side1 => exact cw_ (Kd.C_below HR0_0.out HB.out))
          (case side2 => exact HC0_0.out)
          (case side3 => exact cw_ (Kd.C_below HR0_0.out HB.out))
          (case side4 => exact HC0_0.out)
          rintro e w79 ⟨rfl, hb⟩
          refine ⟨_, rfl, ?_⟩
          have n0_ := Aside0.mk (Kd.R_below (rw_ HO291.out) hb)
          have n1_ := Aside0.mk (Kd.R_below (rw_ HO297.out) hb)
          have n2_ := bb_ BK284 hb
          have n3_ := bb_ BK285 hb
          have n4_ := bb_ BK286 hb
          have n5_ := bb_ BK287 hb
          have n6_ := bb_ BK294 hb
          have n7_ := bb_ BK300 hb
          have n8_ := bs_ HB hb
          clear HO291
          clear HO297
          clear BK284
          clear BK285
          clear BK286
          clear BK287
          clear BK294
          clear BK300
          clear HB
          have HO291 := n0_
          have HO297 := n1_
          have BK284 := n2_
          have BK285 := n3_
          have BK286 := n4_
          have BK287 := n5_
          have BK294 := n6_
          have BK300 := n7_
          have HB := n8_
          clear n0_ n1_ n2_ n3_ n4_ n5_ n6_ n7_ n8_
          (try clear hb)
          (try clear hb2)
          (try clear hk)
          (try clear hi)
          refine hK.out _ _ ⟨(blk_cell BK284.out 0).trans rfl, (blk_cell BK284.out 1).trans rfl, (blk_cell BK294.out 0).trans rfl, (blk_cell BK294.out 1).trans rfl, (blk_cell BK300.out 0).trans rfl, (blk_cell BK300.out 1).trans rfl, (blk_cell BK287.out 0).trans rfl, (blk_cell BK287.out 1).trans rfl⟩ (fun hHeld => ?_)
          clear hK K
          refine norm_ (a' := ?_) ?_ ?_
          rotate_left
          ·show Act.put _ (some 71) _ = _
           simp only [Act.put, List.setIfInBounds_toArray, List.set_cons_zero, List.set_cons_succ, i64_w, i32_w]
           rfl
          refine pp_ (i := 28) (N := some 72) #[true, true, true, true, true, true, true, true, true, true, true, true, true, true, true, true, true, true, true, true, true, true, true, true, true, true, true, true, true, false, false, false, false, false, false, false, false, false] rfl rfl (any_of HT_.out (by kernel_rfl)) (h := ?_)
          refine pp_ (i := 29) (N := some 73) #[true, true, true, true, true, true, true, true, true, true, true, true, true, true, true, true, true, true, true, true, true, true, true, true, true, true, true, true, true, true, false, false, false, false, false, false, false, false] rfl rfl (any_of HT_.out (by kernel_rfl)) (h := ?_)
          refine one_ (i := 30) (N := some 74) #[true, true, true, true, true, true, true, true, true, true, true, true, true, true, true, true, true, true, true, true, true, true, true, true, true, true, true, true, true, true, true, false, false, false, false, false, false, false] rfl rfl (one_of HT_.out (by kernel_rfl)) (by decide) (fun K hK => ?_)
          refine goes_ Try.func40 (by kernel_rfl) rfl #[] (by rfl) rfl rfl (by (try simp only [List.map_toArray, List.map_cons, List.map_nil]); first | done | rfl | (simp only [List.length_drop, List.length_take]; rfl)) ?_
          with_reducible refine (tree_New.calls  t307 t310 _ A38.out).mono ?_
          rintro e w80 ⟨v308, rfl, ho0, hb⟩
          refine ⟨_, rfl, ?_⟩
          have n0_ := Aside0.mk (Kd.R_elder' (rw_ HO291.out) (Kd.R_base ho0) hb)
          have n1_ := Aside0.mk (Kd.R_elder' (rw_ HO297.out) (Kd.R_base ho0) hb)
          have n2_ := Aside0.mk (Kd.R_lower (Kd.R_new' (Kd.R_new' ho0 (Kd.R_lt (rw_ HO291.out))) (Kd.R_lt (rw_ HO297.out))) (below_size (hb_ HB)))
          have n3_ := bb_ BK284 hb
          have n4_ := bb_ BK285 hb
          have n5_ := bb_ BK286 hb
          have n6_ := bb_ BK287 hb
          have n7_ := bb_ BK294 hb
          have n8_ := bb_ BK300 hb
          have n9_ := bs_ HB hb
          clear HO291
          clear HO297
          clear BK284
          clear BK285
          clear BK286
          clear BK287
          clear BK294
          clear BK300
          clear HB
          have HO291 := n0_
          have HO297 := n1_
          have HO309 := n2_
          have BK284 := n3_
          have BK285 := n4_
          have BK286 := n5_
          have BK287 := n6_
          have BK294 := n7_
          have BK300 := n8_
          have HB := n9_
          clear n0_ n1_ n2_ n3_ n4_ n5_ n6_ n7_ n8_ n9_
          (try clear hb)
          (try clear hb2)
          (try clear hk)
          (try clear hi)
          (try clear ho0)
          refine hK.out _ _ ⟨(blk_cell BK284.out 0).trans rfl, (blk_cell BK284.out 1).trans rfl, (blk_cell BK294.out 0).trans rfl, (blk_cell BK294.out 1).trans rfl, (blk_cell BK300.out 0).trans rfl, (blk_cell BK300.out 1).trans rfl, (blk_cell BK287.out 0).trans rfl, (blk_cell BK287.out 1).trans rfl⟩ (fun hHeld => ?_)
          clear hK K
          refine norm_ (a' := ?_) ?_ ?_
          rotate_left
          ·show Act.put _ (some 74) _ = _
           simp only [Act.put, List.setIfInBounds_toArray, List.set_cons_zero, List.set_cons_succ, i64_w, i32_w]
           rfl
          refine one_ (i := 31) (N := some 75) #[true, true, true, true, true, true, true, true, true, true, true, true, true, true, true, true, true, true, true, true, true, true, true, true, true, true, true, true, true, true, true, true, false, false, false, false, false, false] rfl rfl (one_of HT_.out (by kernel_rfl)) (by decide) (fun K hK => ?_)
          refine goes_ Try.func41 (by kernel_rfl) rfl #[] (by rfl) rfl rfl (by (try simp only [List.map_toArray, List.map_cons, List.map_nil]); first | done | rfl | (simp only [List.length_drop, List.length_take]; rfl)) ?_
          with_reducible refine (calamusref11_New.calls  t311 t314 _ A39.out).mono ?_
          rintro e w81 ⟨v312, rfl, ho0, hb⟩
          refine ⟨_, rfl, ?_⟩
          have n0_ := Aside0.mk (Kd.R_elder' (rw_ HO291.out) (Kd.R_base ho0) hb)
          have n1_ := Aside0.mk (Kd.R_elder' (rw_ HO297.out) (Kd.R_base ho0) hb)
          have n2_ := Aside0.mk (Kd.R_elder' (rw_ HO309.out) (Kd.R_base ho0) hb)
          have n3_ := Aside0.mk (Kd.R_lower (Kd.R_new' (Kd.R_new' (Kd.R_new' ho0 (Kd.R_lt (rw_ HO291.out))) (Kd.R_lt (rw_ HO297.out))) (Kd.R_lt (rw_ HO309.out))) (below_size (hb_ HB)))
          have n4_ := bb_ BK284 hb
          have n5_ := bb_ BK285 hb
          have n6_ := bb_ BK286 hb
          have n7_ := bb_ BK287 hb
          have n8_ := bb_ BK294 hb
          have n9_ := bb_ BK300 hb
          have n10_ := bs_ HB hb
          clear HO291
          clear HO297
          clear HO309
          clear BK284
          clear BK285
          clear BK286
          clear BK287
          clear BK294
          clear BK300
          clear HB
          have HO291 := n0_
          have HO297 := n1_
          have HO309 := n2_
          have HO313 := n3_
          have BK284 := n4_
          have BK285 := n5_
          have BK286 := n6_
          have BK287 := n7_
          have BK294 := n8_
          have BK300 := n9_
          have HB := n10_
          clear n0_ n1_ n2_ n3_ n4_ n5_ n6_ n7_ n8_ n9_ n10_
          (try clear hb)
          (try clear hb2)
          (try clear hk)
          (try clear hi)
          (try clear ho0)
          obtain ⟨Ao82, co82, eo82⟩ := Kd.R_slice HO309.out
          (first | subst eo82 | (injection eo82 with f1_ f2_ f3_; have f4_ := f1_.symm; have f5_ := f3_.symm; clear f1_ f2_ f3_; subst f4_; subst f5_))
          obtain ⟨Ao83, co83, eo83⟩ := Kd.R_slice HO313.out
          (first | subst eo83 | (injection eo83 with f1_ f2_ f3_; have f4_ := f1_.symm; have f5_ := f3_.symm; clear f1_ f2_ f3_; subst f4_; subst f5_))
          refine hK.out _ _ ⟨(blk_cell BK284.out 0).trans rfl, (blk_cell BK284.out 1).trans rfl, (blk_cell BK294.out 0).trans rfl, (blk_cell BK294.out 1).trans rfl, (blk_cell BK300.out 0).trans rfl, (blk_cell BK300.out 1).trans rfl, (blk_cell BK287.out 0).trans rfl, (blk_cell BK287.out 1).trans rfl⟩ (fun hHeld => ?_)
          clear hK K
          refine norm_ (a' := ?_) ?_ ?_
          rotate_left
          ·show Act.put _ (some 75) _ = _
           simp only [Act.put, List.setIfInBounds_toArray, List.set_cons_zero, List.set_cons_succ, i64_w, i32_w]
           rfl
          refine one_ (i := 32) (N := some 76) #[true, true, true, true, true, true, true, true, true, true, true, true, true, true, true, true, true, true, true, true, true, true, true, true, true, true, true, true, true, true, true, true, true, false, false, false, false, false] rfl rfl (one_of HT_.out (by kernel_rfl)) (by decide) (fun K hK => ?_)
          refine goes_ Try.func38 (by kernel_rfl) rfl #[.agg #[.slice Ao82 t307.length co82, .int .i64 t310], .agg #[.slice Ao83 t311.length co83, .int .i64 t314]] (by rfl) rfl rfl (by (try simp only [List.map_toArray, List.map_cons, List.map_nil]); first | done | rfl | (simp only [List.length_drop, List.length_take]; rfl)) ?_
          with_reducible refine (calamusref11_Same.calls kj4 _ _ t307 t310 _ _ t311 t314 true _ ?side1 ?side2 ?side3 ?side4 A40.out).mono ?_
          (case side1 => repeat (first | exact (Kd.R_reads' HO309.out).2.2 | (with_reducible refine Kd.C_alloc ?_ _) | (with_reducible refine Kd.C_drewN ?_ _) | (with_reducible refine Kd.C_drew ?_)))
          (case side2 => exact (Kd.R_reads' HO309.out).2.1)
          (case side3 => repeat (first | exact (Kd.R_reads' HO313.out).2.2 | (with_reducible refine Kd.C_alloc ?_ _) | (with_reducible refine Kd.C_drewN ?_ _) | (with_reducible refine Kd.C_drew ?_)))
          (case side4 => exact (Kd.R_reads' HO313.out).2.1)
          rintro e w84 ⟨rfl, hb⟩
          refine ⟨_, rfl, ?_⟩
          have n0_ := Aside0.mk (Kd.R_below (rw_ HO291.out) hb)
          have n1_ := Aside0.mk (Kd.R_below (rw_ HO297.out) hb)
          have n2_ := Aside0.mk (Kd.R_below (rw_ HO309.out) hb)
          have n3_ := Aside0.mk (Kd.R_below (rw_ HO313.out) hb)
          have n4_ := bb_ BK284 hb
          have n5_ := bb_ BK285 hb
          have n6_ := bb_ BK286 hb
          have n7_ := bb_ BK287 hb
          have n8_ := bb_ BK294 hb
          have n9_ := bb_ BK300 hb
          have n10_ := bs_ HB hb
          clear HO291
          clear HO297
          clear HO309
          clear HO313
          clear BK284
          clear BK285
          clear BK286
          clear BK287
          clear BK294
          clear BK300
          clear HB
          have HO291 := n0_
          have HO297 := n1_
          have HO309 := n2_
          have HO313 := n3_
          have BK284 := n4_
          have BK285 := n5_
          have BK286 := n6_
          have BK287 := n7_
          have BK294 := n8_
          have BK300 := n9_
          have HB := n10_
          clear n0_ n1_ n2_ n3_ n4_ n5_ n6_ n7_ n8_ n9_ n10_
          (try clear hb)
          (try clear hb2)
          (try clear hk)
          (try clear hi)
          refine hK.out _ _ ⟨(blk_cell BK284.out 0).trans rfl, (blk_cell BK284.out 1).trans rfl, (blk_cell BK294.out 0).trans rfl, (blk_cell BK294.out 1).trans rfl, (blk_cell BK300.out 0).trans rfl, (blk_cell BK300.out 1).trans rfl, (blk_cell BK287.out 0).trans rfl, (blk_cell BK287.out 1).trans rfl⟩ (fun hHeld => ?_)
          clear hK K
          refine norm_ (a' := ?_) ?_ ?_
          rotate_left
          ·show Act.put _ (some 76) _ = _
           simp only [Act.put, List.setIfInBounds_toArray, List.set_cons_zero, List.set_cons_succ, i64_w, i32_w]
           rfl
          refine pp_ (i := 33) (N := some 77) #[true, true, true, true, true, true, true, true, true, true, true, true, true, true, true, true, true, true, true, true, true, true, true, true, true, true, true, true, true, true, true, true, true, true, false, false, false, false] rfl rfl (any_of HT_.out (by kernel_rfl)) (h := ?_)
          refine pp_ (i := 34) (N := some 78) #[true, true, true, true, true, true, true, true, true, true, true, true, true, true, true, true, true, true, true, true, true, true, true, true, true, true, true, true, true, true, true, true, true, true, true, false, false, false] rfl rfl (any_of HT_.out (by kernel_rfl)) (h := ?_)
          refine one_ (i := 35) (N := some 79) #[true, true, true, true, true, true, true, true, true, true, true, true, true, true, true, true, true, true, true, true, true, true, true, true, true, true, true, true, true, true, true, true, true, true, true, true, false, false] rfl rfl (one_of HT_.out (by kernel_rfl)) (by decide) (fun K hK => ?_)
          refine goes_ Try.func33 (by kernel_rfl) rfl #[] (by rfl) rfl rfl (by (try simp only [List.map_toArray, List.map_cons, List.map_nil]); first | done | rfl | (simp only [List.length_drop, List.length_take]; rfl)) ?_
          with_reducible refine (calamuslaw11_lives.calls kj4  t316 _ A42.out).mono ?_
          rintro e w85 ⟨rfl, hb⟩
          refine ⟨_, rfl, ?_⟩
          have n0_ := Aside0.mk (Kd.R_below (rw_ HO291.out) hb)
          have n1_ := Aside0.mk (Kd.R_below (rw_ HO297.out) hb)
          have n2_ := Aside0.mk (Kd.R_below (rw_ HO309.out) hb)
          have n3_ := Aside0.mk (Kd.R_below (rw_ HO313.out) hb)
          have n4_ := bb_ BK284 hb
          have n5_ := bb_ BK285 hb
          have n6_ := bb_ BK286 hb
          have n7_ := bb_ BK287 hb
          have n8_ := bb_ BK294 hb
          have n9_ := bb_ BK300 hb
          have n10_ := bs_ HB hb
          clear HO291
          clear HO297
          clear HO309
          clear HO313
          clear BK284
          clear BK285
          clear BK286
          clear BK287
          clear BK294
          clear BK300
          clear HB
          have HO291 := n0_
          have HO297 := n1_
          have HO309 := n2_
          have HO313 := n3_
          have BK284 := n4_
          have BK285 := n5_
          have BK286 := n6_
          have BK287 := n7_
          have BK294 := n8_
          have BK300 := n9_
          have HB := n10_
          clear n0_ n1_ n2_ n3_ n4_ n5_ n6_ n7_ n8_ n9_ n10_
          (try clear hb)
          (try clear hb2)
          (try clear hk)
          (try clear hi)
          refine hK.out _ _ ⟨(blk_cell BK284.out 0).trans rfl, (blk_cell BK284.out 1).trans rfl, (blk_cell BK294.out 0).trans rfl, (blk_cell BK294.out 1).trans rfl, (blk_cell BK300.out 0).trans rfl, (blk_cell BK300.out 1).trans rfl, (blk_cell BK287.out 0).trans rfl, (blk_cell BK287.out 1).trans rfl⟩ (fun hHeld => ?_)
          clear hK K
          refine norm_ (a' := ?_) ?_ ?_
          rotate_left
          ·show Act.put _ (some 79) _ = _
           simp only [Act.put, List.setIfInBounds_toArray, List.set_cons_zero, List.set_cons_succ, i64_w, i32_w]
           rfl
          refine pp_ (i := 36) (N := some 80) #[true, true, true, true, true, true, true, true, true, true, true, true, true, true, true, true, true, true, true, true, true, true, true, true, true, true, true, true, true, true, true, true, true, true, true, true, true, false] rfl rfl (any_of HT_.out (by kernel_rfl)) (h := ?_)
          refine pp_ (i := 37) (N := some 8) #[true, true, true, true, true, true, true, true, true, true, true, true, true, true, true, true, true, true, true, true, true, true, true, true, true, true, true, true, true, true, true, true, true, true, true, true, true, true] rfl rfl (any_of HT_.out (by kernel_rfl)) (h := ?_)
          refine done_ (done_of HT_.out (by kernel_rfl)) ?_
          try go_wp2
          go_ret
          exact ⟨er_, hb_ HB⟩
         ·replace c41 := Bool.eq_false_iff.mpr c41
          subst c41
          have H1 : (some false) = some r := by rw [if_neg (show ¬ (false = true) by decide)] at H; exact H
          clear H
          have H := H1
          clear H1
          exact nf_ H hr_
        ·replace c37 := Bool.eq_false_iff.mpr c37
         subst c37
         have H1 : (some false) = some r := by rw [if_neg (show ¬ (false = true) by decide)] at H; exact H
         clear H
         have H := H1
         clear H1
         exact nf_ H hr_
       ·rw [if_neg c35] at H
        have c35b0 : (t304 == t305) = false := by simpa using c35
        (try (have c35b1 : decide (t304 = t305) = false := by simpa using c35))
        (try (have c35b2 : (t304 == t305) = false := by simpa using c35))
        (try (have c35b3 : ¬ (t304 = t305) := by simpa using c35))
        clear c35
        exact nf_ H hr_
      ·rw [if_neg c32] at H
       have c32b0 : (t293 == t299) = false := beq_eq_false_iff_ne.mpr c32
       have c32b1 : (t293 != t299) = true := bne_iff_ne.mpr c32
       exact nf_ H hr_
     ·replace c31 := Bool.eq_false_iff.mpr c31
      subst c31
      have H1 : (some false) = some r := by rw [if_neg (show ¬ (false = true) by decide)] at H; exact H
      clear H
      have H := H1
      clear H1
      exact nf_ H hr_
    ·rw [if_neg c29] at H
     have c29b0 : (t301 == t302) = false := by simpa using c29
     (try (have c29b1 : decide (t301 = t302) = false := by simpa using c29))
     (try (have c29b2 : (t301 == t302) = false := by simpa using c29))
     (try (have c29b3 : ¬ (t301 = t302) := by simpa using c29))
     clear c29
     exact nf_ H hr_
end Go.Proofs.Ytkiokimpblimcaa.PTreeAdds
