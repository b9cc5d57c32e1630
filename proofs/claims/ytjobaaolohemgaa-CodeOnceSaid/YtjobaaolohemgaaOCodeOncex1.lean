/- Of the law calamus/calamuslaw01.CodeOnce: each function as a plain Lean function, with a proof that the call comes to it; the row. By wip/tpl/own_print.py. Conditions: none but the row's own. -/
import Derived.Test.YtjobaaolohemgaaOCodeOncex0
namespace Go.Proofs.Ytjobaaolohemgaa.PCodeOnce
open Go.RowKit Go.Proofs.YtjobaaolohemgaaW.PrintWords Go.Proofs.YtjobaaolohemgaaW.PrintLast Go.Proofs.YtjobaaolohemgaaW.PrintMore
attribute [local go_sem] max2_int min2_int max_two min_two max_three min_three max_four min_four   -- for this text's walks alone
set_option linter.unusedVariables false
set_option linter.unusedSimpArgs false

/-! ### code_Num: function 14 -/
mutual
def code_Num.j0 : Nat → Int → Bool → Option (ByteArray)
 | 0, _, _ => none
 | k + 1, x0, x10 => if x10 = true then (some (⟨#[]⟩ : ByteArray)) else (if 4 ≤ 281474976710656 then (code_Num.l0 k x0 (List.replicate 4 0) 0) else (none))
def code_Num.l0 : Nat → Int → List Int → Int → Option (ByteArray)
 | 0, _, _, _ => none
 | k + 1, x0, x3, x12 => if x12 < 4 then (if 0 ≤ (wrap64 (8 * x12)) then (if 0 ≤ x12 then (if x12 < (x3.length : Int) then (code_Num.l0 k x0 (x3.set (x12 : Int).toNat ((shr .i64 x0 (wrap64 (8 * x12))) % 256)) (wrap64 (x12 + 1))) else (none)) else (none)) else (none)) else (some (strOfNums x3))
end
def code_Num.f (k : Nat) (a0 : Int) : Option (ByteArray) := if a0 < 0 then (code_Num.j0 k a0 true) else (code_Num.j0 k a0 (decide (a0 > 2147483647)))
theorem code_Num.mono_l : ∀ k, (∀ y0 y1, LeO (code_Num.j0 k y0 y1) (code_Num.j0 (k + 1) y0 y1)) ∧ (∀ y0 y1 y2, LeO (code_Num.l0 k y0 y1 y2) (code_Num.l0 (k + 1) y0 y1 y2))
 | 0 => ⟨fun _ _ r h => by simp [code_Num.j0] at h, fun _ _ _ r h => by simp [code_Num.l0] at h⟩
 | k + 1 => by
  obtain ⟨ih0, ih1⟩ := code_Num.mono_l k
  refine ⟨?_, ?_⟩
  ·intro y0 y1
   unfold code_Num.j0
   repeat' first
   | (with_reducible exact ih0 _ _)
   | (with_reducible exact ih1 _ _ _)
   | (with_reducible exact LeO.refl _)
   | (with_reducible exact LeO.none _)
   | (with_reducible refine LeO.ite ?_ ?_)
   | (with_reducible refine LeO.bind ?_ (fun _ => ?_))
   | exact ih0 _ _
   | exact ih1 _ _ _
   | exact LeO.none _
   | refine LeO.ite ?_ ?_
   | refine LeO.bind ?_ (fun _ => ?_)
  ·intro y0 y1 y2
   unfold code_Num.l0
   repeat' first
   | (with_reducible exact ih0 _ _)
   | (with_reducible exact ih1 _ _ _)
   | (with_reducible exact LeO.refl _)
   | (with_reducible exact LeO.none _)
   | (with_reducible refine LeO.ite ?_ ?_)
   | (with_reducible refine LeO.bind ?_ (fun _ => ?_))
   | exact ih0 _ _
   | exact ih1 _ _ _
   | exact LeO.none _
   | refine LeO.ite ?_ ?_
   | refine LeO.bind ?_ (fun _ => ?_)
theorem code_Num.mono : ∀ a0 k, LeO (code_Num.f k a0) (code_Num.f (k + 1) a0) := by
 intro a0 k
 obtain ⟨ih0, ih1⟩ := code_Num.mono_l k
 unfold code_Num.f
 repeat' first
   | (with_reducible exact ih0 _ _)
   | (with_reducible exact ih1 _ _ _)
   | (with_reducible exact LeO.refl _)
   | (with_reducible exact LeO.none _)
   | (with_reducible refine LeO.ite ?_ ?_)
   | (with_reducible refine LeO.bind ?_ (fun _ => ?_))
   | exact ih0 _ _
   | exact ih1 _ _ _
   | exact LeO.none _
   | refine LeO.ite ?_ ?_
   | refine LeO.bind ?_ (fun _ => ?_)
set_option maxHeartbeats 8000000 in
set_option maxRecDepth 100000 in
theorem code_Num.calls (k : Nat) (a0 : Int) (r : ByteArray) (w : World) (h : code_Num.f k a0 = some r) :
  Calls Try.prog 14 #[.int .i64 a0] w fun e w' => e = .returned (.string r) ∧ Below w.heap.size w w' := by
 have HB := Aside0.mk (Below.refl w.heap.size w)
 have H : (if a0 < 0 then (code_Num.j0 k a0 true) else (code_Num.j0 k a0 (decide (a0 > 2147483647)))) = some r := h
 clear h
 have HC2 := Aside0.mk H
 clear H
 go_enter Try.func14, Try.ntmps14
 go_upto_region 1 with (fail)
 go_cut [10] (fun v10 wc => ∃ (kq : Nat) (x10_1 : Bool), v10 = .bool x10_1 ∧ Aside0 (code_Num.j0 kq a0 x10_1 = some r) ∧ Aside0 (kq ≤ k) ∧ Aside0 (Below w.heap.size w wc))
 case first =>
  have H := HC2.out
  clear HC2
  by_cases c3 : a0 < 0
  ·rw [if_pos c3] at H
   have c3b0 : decide (a0 < 0) = true := decide_eq_true c3
   clear c3
   (first | rw [c3b0] | (simp only [i64_w, i32_w]; rw [c3b0]) | skip)
   have H' := Aside0.mk H
   clear H
   go_wp2
   go_meet
   case rel => exact ⟨_, (true), es_, H', ⟨by first | omega | exact Nat.le_refl _⟩, ⟨hb_ HB⟩⟩
  ·rw [if_neg c3] at H
   have c3b0 : decide (a0 < 0) = false := decide_eq_false c3
   clear c3
   (first | rw [c3b0] | (simp only [i64_w, i32_w]; rw [c3b0]) | skip)
   have H' := Aside0.mk H
   clear H
   go_wp2
   go_meet
   case rel => exact ⟨_, (decide (a0 > 2147483647)), es_, H', ⟨by first | omega | exact Nat.le_refl _⟩, ⟨hb_ HB⟩⟩
 case rest =>
  clear HC2
  obtain ⟨kq, x10_1, rfl, HA, HJ1, HB⟩ := hcut
  cases kq with
  | zero => exact absurd HA.out (by simp [code_Num.j0])
  | succ kj1 =>
   have H := HA.out
   clear HA
   simp only [code_Num.j0] at H
   by_cases c4 : x10_1 = true
   ·subst c4
    have H1 : (some (⟨#[]⟩ : ByteArray)) = some r := by rw [if_pos rfl] at H; exact H
    clear H
    have H := H1
    clear H1
    obtain rfl := Option.some.inj H
    go_wp2
    go_ret
    exact ⟨er_, hb_ HB⟩
   ·replace c4 := Bool.eq_false_iff.mpr c4
    subst c4
    have H1 : (if 4 ≤ 281474976710656 then (code_Num.l0 kj1 a0 (List.replicate 4 0) 0) else (none)) = some r := by rw [if_neg (show ¬ (false = true) by decide)] at H; exact H
    clear H
    have H := H1
    clear H1
    by_cases c5 : 4 ≤ 281474976710656
    ·rw [if_pos c5] at H
     have c5b0 := eq_true c5
     have c5b1 : decide (4 ≤ 281474976710656) = true := decide_eq_true c5
     clear c5
     obtain ⟨y101, hy101⟩ : ∃ y_ : List Int, y_ = (List.replicate 4 0) := ⟨_, rfl⟩
     replace H : (code_Num.l0 kj1 a0 y101 0) = some r := th_ H hy101
     have Ny101 := Aside0.mk hy101
     clear hy101
     have H' := Aside0.mk H
     clear H
     go_wp2_with (first | ((with_reducible refine gate_dst (N := 11) rfl ?_); refine Kd.R_make (Kd.int .u8) _ 5 rfl (N := 11) rfl 69 _ _ rfl 4 rfl rfl Try.underlying69 (.int .u8 0) 1 info5 rfl (by decide) (by omega) 0 (ok := fun _ => True) (okp := fun _ => True) rfl (fun _ hk => hk) trivial (by omega) (by omega) (Below.refl _ _) (Nat.le_refl _) ?_; intro v102 w6 ho7 hb hg_ hnew_; clear hg_ hnew_; (first | rw [← Ny101.out] at ho7 | (simp only [Int.reduceToNat] at ho7; rw [← Ny101.out] at ho7)); have HO103 := Aside0.mk (Kd.R_lower ho7 (below_size (hb_ HB))); replace HB := bs_ HB hb; clear hb ho7))
     go_loopg [12] kj1 (fun kq v12 w' => ∃ (x3_2 : List Int) (x12_2 : Int), v12 = .int .i64 x12_2 ∧ Aside0 (code_Num.l0 kq a0 x3_2 x12_2 = some r) ∧ Aside0 (kq ≤ kj1) ∧ Aside0 (Kd.R (Kd.int .u8) 5 w' w.heap.size (fun _ => True) v102 x3_2) ∧ Aside0 (Below w.heap.size w w'))
     case atStart => exact ⟨(y101), (0), es_, H', ⟨Nat.le_refl _⟩, ⟨rw_ HO103.out⟩, ⟨hb_ HB⟩⟩
     case round =>
      clear H'
      try clear c4
      try clear c5
      try clear c5b0
      try clear c5b1
      obtain ⟨x3_2, x12_2, rfl, HA, HK2, HO_3, HB⟩ := hrel
      cases gk with
      | zero => exact absurd HA.out (by simp [code_Num.l0])
      | succ k2 =>
       have H := HA.out
       clear HA
       simp only [code_Num.l0] at H
       by_cases c8 : x12_2 < 4
       ·rw [if_pos c8] at H
        have c8b0 : decide (x12_2 < 4) = true := decide_eq_true c8
        clear c8
        obtain ⟨ji9, hji9⟩ : ∃ j_ : Int, (wrap64 (8 * x12_2)) = j_ := ⟨_, rfl⟩
        replace H : (if 0 ≤ (ji9) then (if 0 ≤ x12_2 then (if x12_2 < (x3_2.length : Int) then (code_Num.l0 k2 a0 (x3_2.set (x12_2 : Int).toNat ((shr .i64 a0 (ji9)) % 256)) (wrap64 (x12_2 + 1))) else (none)) else (none)) else (none)) = some r := by first | (rw [hji9] at H; exact H) | (simp only [hji9] at H ⊢; exact H)
        have hji9w : (IntKind.i64.wrap (8 * x12_2)) = ji9 := (i64_w _).trans hji9
        by_cases c10 : 0 ≤ (ji9)
        ·rw [if_pos c10] at H
         have c10b0 := eq_true c10
         have c10b1 : decide (0 ≤ (ji9)) = true := decide_eq_true c10
         clear c10
         obtain ⟨ji11, hji11⟩ : ∃ j_ : Int, (shr .i64 a0 (ji9)) = j_ := ⟨_, rfl⟩
         replace H : (if 0 ≤ x12_2 then (if x12_2 < (x3_2.length : Int) then (code_Num.l0 k2 a0 (x3_2.set (x12_2 : Int).toNat ((ji11) % 256)) (wrap64 (x12_2 + 1))) else (none)) else (none)) = some r := by first | (rw [hji11] at H; exact H) | (simp only [hji11] at H ⊢; exact H)
         have hji11_ : (a0 / 2 ^ min (ji9).toNat 64) = ji11 := hji11
         have hji11z : (ji9) ≤ 64 → (a0 / 2 ^ (ji9).toNat) = ji11 := shr_small hji11
         by_cases c12 : 0 ≤ x12_2
         ·rw [if_pos c12] at H
          have c12b0 : decide (0 ≤ x12_2) = true := decide_eq_true c12
          clear c12
          by_cases c13 : x12_2 < (x3_2.length : Int)
          ·rw [if_pos c13] at H
           have c13b0 : decide (x12_2 < (x3_2.length : Int)) = true := decide_eq_true c13
           clear c13
           obtain ⟨y104, hy104⟩ : ∃ y_ : List Int, y_ = (x3_2.set (x12_2 : Int).toNat ((ji11) % 256)) := ⟨_, rfl⟩
           replace H : (code_Num.l0 k2 a0 y104 (wrap64 (x12_2 + 1))) = some r := th_ H hy104
           have Ny104 := Aside0.mk hy104
           clear hy104
           have H' := Aside0.mk H
           clear H
           have p14 : 0 ≤ (x12_2 : Int) := of_decide_eq_true as_
           have q14 : (x12_2 : Int) < ((x3_2.length : Int) : Int) := of_decide_eq_true as_
           obtain ⟨go14, co14, eo14, gb14, gl14, cl14, HG14⟩ := Kd.R_form HO_3.out (by omega)
           (first | cases eo14 | (injection eo14 with ea_ en_ ec_; (first | subst ea_ | (injection ea_ with ea_; subst ea_)); subst ec_; clear en_))
           have GB14 := Aside0.mk gb14
           have GG14 := Aside0.mk HG14
           clear gb14 gl14 HG14
           obtain ⟨hx14_0, hf14_0⟩ := Kd.R_celln 0 HO_3.out (x12_2 : Int) p14 q14
           replace p14 := eq_true p14
           replace q14 := eq_true q14
           have HP15 := Kd.R_putg HO_3.out (x12_2 : Int) ((ji11) % 256)
           go_wp2_with (first | ((with_reducible refine gate_store (t := 5) (p := 22) rfl ?_); refine store_event (t := 5) (p := 22) (v := ?vo_w16) (w1 := (wr.setCell ⟨go14, (x12_2 : Int).toNat, none⟩ (.int .u8 ((ji11) % 256)))) ?hg ?ho ?hn ?hr ?_; (case ho => rfl); (case hg => rfl); (case hn => rfl); (case hr => first | (go_simp; done) | (go_simp; rfl)); intro w16 hw; have hg : wr.grownBy w16 (some go14) := (by rw [hw]; exact HP15.2); have hp_ : Kd.R (Kd.int .u8) 5 w16 w.heap.size (fun _ => True) (.slice (some ⟨go14, 0, none⟩) x3_2.length co14) y104 := (by rw [hw, Ny104.out]; exact HP15.1); clear HP15; replace HO_3 := Aside0.mk (hp_); replace HB := Aside0.mk ((by rw [hw]; exact below_set (HB.out) GB14.out : Below w.heap.size w w16)); clear hg hw hp_))
           go_roundg k2
           case measure => have := HJ1.out; have := HK2.out; omega
           case rel => exact ⟨(y104), (wrap64 (x12_2 + 1)), es_, H', ⟨by have := HJ1.out; have := HK2.out; omega⟩, ⟨rw_ HO_3.out⟩, ⟨hb_ HB⟩⟩
          ·rw [if_neg c13] at H
           exact absurd H (by simp)
         ·rw [if_neg c12] at H
          exact absurd H (by simp)
        ·rw [if_neg c10] at H
         exact absurd H (by simp)
       ·rw [if_neg c8] at H
        have c8b0 : decide (x12_2 < 4) = false := decide_eq_false c8
        clear c8
        obtain rfl := Option.some.inj H
        have hcv17 := own_string (P := Try.prog) Try.underlying69 Try.underlying5 Try.underlying9 (Kd.own_of_R HO_3.out)
        go_wp2
        go_ret
        exact ⟨er_, hb_ HB⟩
    ·rw [if_neg c5] at H
     exact absurd H (by simp)

/-! ### code_Text: function 16 -/
def code_Text.f (k : Nat) (a0 : ByteArray) : Option (ByteArray) := if (a0.size : Int) > 2147483647 then (some (⟨#[]⟩ : ByteArray)) else ((code_Num.f k (a0.size : Int)).bind fun t105 => (if t105.size + a0.size ≤ 9223372036854775807 then (some (t105 ++ a0)) else (none)))
theorem code_Text.mono : ∀ a0 k, LeO (code_Text.f k a0) (code_Text.f (k + 1) a0) := by
 intro a0 k
 unfold code_Text.f
 repeat' first
   | (with_reducible exact code_Num.mono _ _)
   | (with_reducible exact LeO.refl _)
   | (with_reducible exact LeO.none _)
   | (with_reducible refine LeO.ite ?_ ?_)
   | (with_reducible refine LeO.bind ?_ (fun _ => ?_))
   | exact code_Num.mono _ _
   | exact LeO.none _
   | refine LeO.ite ?_ ?_
   | refine LeO.bind ?_ (fun _ => ?_)
set_option maxHeartbeats 8000000 in
set_option maxRecDepth 100000 in
theorem code_Text.calls (k : Nat) (a0 : ByteArray) (r : ByteArray) (w : World) (h : code_Text.f k a0 = some r) :
  Calls Try.prog 16 #[.string a0] w fun e w' => e = .returned (.string r) ∧ Below w.heap.size w w' := by
 have HB := Aside0.mk (Below.refl w.heap.size w)
 have H : (if (a0.size : Int) > 2147483647 then (some (⟨#[]⟩ : ByteArray)) else ((code_Num.f k (a0.size : Int)).bind fun t105 => (if t105.size + a0.size ≤ 9223372036854775807 then (some (t105 ++ a0)) else (none)))) = some r := h
 clear h
 by_cases c2 : (a0.size : Int) > 2147483647
 ·rw [if_pos c2] at H
  have c2b0 : decide (2147483647 < (a0.size : Int)) = true := decide_eq_true c2
  have c2b1 : decide (2147483647 < a0.size) = true := decide_eq_true (by omega)
  clear c2
  obtain rfl := Option.some.inj H
  go_enter Try.func16, Try.ntmps16
  go_wp2
  go_ret
  exact ⟨er_, hb_ HB⟩
 ·rw [if_neg c2] at H
  have c2b0 : decide (2147483647 < (a0.size : Int)) = false := decide_eq_false c2
  have c2b1 : decide (2147483647 < a0.size) = false := decide_eq_false (by omega)
  clear c2
  replace H := Option.bind_eq_some_iff.mp H
  obtain ⟨t105, A30, H⟩ := H
  replace H : (if t105.size + a0.size ≤ 9223372036854775807 then (some (t105 ++ a0)) else (none)) = some r := H
  have A3 := Aside0.mk A30
  clear A30
  by_cases c4 : t105.size + a0.size ≤ 9223372036854775807
  ·rw [if_pos c4] at H
   have c4b0 := eq_true c4
   try (have c4b0x := c4b0; simp only [ByteArray.size_extract, Nat.min_self] at c4b0x)
   have c4b1 : decide (t105.size + a0.size ≤ 9223372036854775807) = true := decide_eq_true c4
   try have c4b2 : (9223372036854775807 < t105.size + a0.size) = False := eq_false (Nat.not_lt.2 c4)
   obtain rfl := Option.some.inj H
   go_enter Try.func16, Try.ntmps16
   go_wp2_with (first | ((with_reducible refine gate_callee (f := 14) rfl ?_); refine ge_ (some 8) rfl rfl Try.func14 (by kernel_rfl) rfl #[.int .i64 (a0.size : Int)] rfl (h := ?_); (with_reducible refine (code_Num.calls k (a0.size : Int) t105 _ A3.out).mono ?_); rintro e w5 ⟨rfl, hb⟩; refine ⟨_, rfl, ?_⟩; replace HB := bs_ HB hb; (try clear hb); (try clear hb2); (try clear hk); (try clear hi)))
   go_ret
   exact ⟨er_, hb_ HB⟩
  ·rw [if_neg c4] at H
   exact absurd H (by simp)

/-! ### code_Nums: function 18, by hand (code.Nums.lean) -/
/-- A row of bytes of the call's own; a mark may stand behind its cells ('[]byte(s)' lays one). -/
def BRow (w : World) (base : Nat) (e : TypeId) (v : Value) (s : ByteArray) : Prop :=
 ∃ (g cap : Nat) (cur : Array Value) (fr : Nat × Nat), v = .slice (some ⟨g, 0, none⟩) s.size cap ∧ base ≤ g ∧ w.heap[g]? = some (.cells cur e fr) ∧ (fr = (0, 0) ∨ cur.size ≤ fr.1) ∧ s.size ≤ cap ∧ cap ≤ maxLen ∧ cur.size = cap ∧ cur.toList.take s.size = Lib.strCells s
theorem brow_conv (w : World) (base : Nat) (e : TypeId) (s : ByteArray) (hb : base ≤ w.heap.size) (hs : s.size ≤ maxLen) : BRow (Lib.bytesWorld w e s) base e (.slice (some ⟨w.heap.size, 0, none⟩) s.size (grownCap w s.size 0 e)) s := by
 have hge := grownCap_ge w s.size 0 e
 have hsz : (Lib.bytesCells w e s).size = grownCap w s.size 0 e := by
  have : s.data.size = s.size := rfl
  simp only [Lib.bytesCells, Array.size_append, Array.size_map, Array.size_replicate]; omega
 refine ⟨w.heap.size, _, Lib.bytesCells w e s, _, rfl, hb, Lib.bytesWorld_at_new w e s, .inr (Nat.le_refl _), hge, grownCap_le_maxLen w s.size 0 e hs, hsz, ?_⟩
 have hl := Lib.strCells_length s
 have e1 : (Lib.bytesCells w e s).toList = Lib.strCells s ++ List.replicate (grownCap w s.size 0 e - s.size) (.int .u8 0) := by
  simp [Lib.bytesCells, Lib.strCells]
 rw [e1, ← hl, List.take_left]
theorem brow_frozen {w : World} {g : Nat} {e : TypeId} {cur : Array Value} {fr : Nat × Nat} (h : w.heap[g]? = some (.cells cur e fr)) (hf : fr = (0, 0) ∨ cur.size ≤ fr.1) (j : Nat) (hj : j < cur.size) : w.frozen? ⟨g, j, none⟩ = false := by
 obtain ⟨lo, hi⟩ := fr
 simp only [World.frozen?, h]
 rcases hf with hf | hf
 ·injection hf with h1 h2; subst h1; subst h2; simp
 ·have : ¬ lo ≤ j := by simp only at hf; omega
  simp [this]
theorem brow_store {P : Program} (g o : Nat) (t : TypeId) (fr : Nat × Nat) : ∀ (vs : List Value) (i : Nat) (cur : Array Value) (w : World), w.heap[g]? = some (.cells cur t fr) → (fr = (0, 0) ∨ cur.size ≤ fr.1) → o + i + vs.length ≤ cur.size → (∀ v ∈ vs, v.oneCell' = true) →
  (storeCells ⟨g, o, none⟩ vs i).run P w = .ok () (w.setRow g (cur.toList.take (o + i) ++ vs ++ cur.toList.drop (o + i + vs.length)).toArray)
 | [], i, cur, w, hg, _, _, _ => by
  simp only [storeCells, List.append_nil, List.length_nil, Nat.add_zero, List.take_append_drop, Array.toArray_toList]
  rw [setRow_self w g cur t fr hg]
  rfl
 | v :: rest, i, cur, w, hg, hf, hl, h1 => by
  have hi : o + i < cur.size := by simp at hl; omega
  have hadd : (⟨g, o, none⟩ : Addr).add i = ⟨g, o + i, none⟩ := by unfold Addr.add; split <;> simp_all
  have hcell : w.cell? ⟨g, o + i, none⟩ = some cur[o + i] := by simp [World.cell?, hg, hi]
  have hfro := brow_frozen hg hf (o + i) hi
  have hst : (store ((⟨g, o, none⟩ : Addr).add i) v).run P w = .ok () (w.setRow g (cur.setIfInBounds (o + i) v)) := by
   rw [hadd, run_store P w _ v _ (h1 v (by simp)), hcell]
   simp [hfro, setCell_eq_setRow w g (o + i) cur t fr v hg]
  have ih := brow_store (P := P) g o t fr rest (i + 1) (cur.setIfInBounds (o + i) v) (w.setRow g (cur.setIfInBounds (o + i) v)) (setRow_heap w g cur _ t _ hg) (by simpa using hf) (by simp at hl ⊢; omega) (fun x hx => h1 x (by simp [hx]))
  simp only [storeCells, Sem.run_bind, hst, Result.andThen_ok, ih, setRow_setRow]
  congr 3
  have e := list_seg_step cur.toList (o + i) v rest (by simp at hl ⊢; omega)
  simpa [Array.toList_setIfInBounds, Nat.add_assoc] using e
theorem strCells_append (a b : ByteArray) : Lib.strCells (a ++ b) = Lib.strCells a ++ Lib.strCells b := by
 simp [Lib.strCells]
theorem brow_append {P : Program} (w : World) (base : Nat) (t u ty e : TypeId) (i : TypeInfo) (ht : P.underlying t = some (.slice e)) (hu : P.underlying u = some .string) (hi : P.info? e = some i) (hz : i.zero = some (.int .u8 0))
  (hsize : i.size = 1) (hby : i.bytes = 1) (v : Value) (b : ByteArray) (hown : BRow w base e v b) (s : ByteArray) (h63 : b.size + s.size ≤ maxLen) (hbytes : b.size + s.size ≤ 140737488355328) (hbase : base ≤ w.heap.size) :
  ∃ v' w', (Builtin.append_ #[t, u] ty #[v, .string s]).run P w = .ok v' w' ∧ BRow w' base e v' (b ++ s) ∧ w.grownBy w' v.ownBlock ∧ (∀ k, v.ownBlock = some k → base ≤ k) := by
 obtain ⟨g, cap, cur, fr, rfl, hbg, hg, hf, hnc, hcm, hcs, htake⟩ := hown
 have hbs : (b ++ s).size = b.size + s.size := ByteArray.size_append
 have hcl := Lib.strCells_length s
 have hbl := Lib.strCells_length b
 have hsmall : b.size + s.size ≤ 9223372036854775807 := by simp only [maxLen] at h63; omega
 by_cases hroom : b.size + s.size ≤ cap
 ·have hfc := Lib.run_firstCells_string (P := P) w 1 s
  have hst := brow_store (P := P) g b.size e fr (Lib.strCells s) 0 cur w hg hf (by simp [hcl]; omega) (Lib.strCells_oneCell s)
  simp only [Nat.add_zero, hcl] at hst
  have hr : (Builtin.append_ #[t, u] ty #[.slice (some ⟨g, 0, none⟩) b.size cap, .string s]).run P w =
    .ok (.slice (some ⟨g, 0, none⟩) (b.size + s.size) cap) (w.setRow g (cur.toList.take b.size ++ Lib.strCells s ++ cur.toList.drop (b.size + s.size)).toArray) := by
   simp [Builtin.append_, run_underlying ht, run_underlying hu, sizeOf, typeInfo, hi, hsize, Builtin.lenOf, hroom, hfc, Addr.add_lit, hst]
  have hnew : (cur.toList.take b.size ++ Lib.strCells s ++ cur.toList.drop (b.size + s.size)).toArray.size = cap := by
   simp only [List.size_toArray, List.length_append, List.length_take, List.length_drop, Array.length_toList, hcl]; omega
  refine ⟨_, _, hr, ⟨g, cap, _, fr, by rw [hbs], hbg, setRow_heap w g cur _ e _ hg, by rw [hnew, ← hcs]; exact hf, by omega, hcm, hnew, ?_⟩, ⟨rfl, rfl, rfl, by simp, fun k _ hk => setRow_other w g k _ (fun e => hk (by simp [Value.ownBlock, e]))⟩, fun k hk => by simp [Value.ownBlock] at hk; omega⟩
  rw [htake, strCells_append, hbs]
  have : b.size + s.size = (Lib.strCells b ++ Lib.strCells s).length := by rw [List.length_append, hbl, hcl]
  rw [this]
  exact List.take_left
 ·have holds : ∀ j u, (Lib.strCells b)[j]? = some u → w.cell? ((⟨g, 0, none⟩ : Addr).add j) = some u := fun j u hj => by
   have hj2 : j < b.size := by rw [← hbl]; exact (List.getElem?_eq_some_iff.1 hj).1
   rw [← htake, List.getElem?_take, if_pos hj2] at hj
   have hadd : (⟨g, 0, none⟩ : Addr).add j = ⟨g, 0 + j, none⟩ := by unfold Addr.add; split <;> simp_all
   rw [hadd, Nat.zero_add]
   simp only [World.cell?, hg]
   simpa using hj
  have hr := Lib.run_append_grow_string (P := P) w t u ty e i (.int .u8 0) ht hu hi hz ⟨g, 0, none⟩ b.size cap (Lib.strCells b) (by rw [hsize, hbl]; simp) holds s (by omega) (by omega) (by rw [hby]; exact growslice_fits (by omega) (by omega))
  have hge := grownCap_ge w (b.size + s.size) cap e
  have hz1 : (Value.int IntKind.u8 0).cells.size = 1 := rfl
  refine ⟨_, _, hr, ⟨w.heap.size, _, _, (0, 0), by rw [hbs], hbase, heap_alloc_new w.drew _, .inl rfl, by omega, grownCap_le_maxLen w (b.size + s.size) cap e h63, ?_, ?_⟩, ⟨rfl, rfl, rfl, by simp, fun k hk _ => heap_alloc_old w.drew _ hk⟩, fun k hk => by simp [Value.ownBlock] at hk; omega⟩
  ·simp only [Array.size_append, List.size_toArray, size_zeroCells, hz1, hbl, hcl]; omega
  ·rw [strCells_append, hbs]
   have : b.size + s.size = (Lib.strCells b ++ Lib.strCells s).length := by rw [List.length_append, hbl, hcl]
   rw [this]
   simp only [Array.toList_append]
   exact List.take_left
/-- append(b, s...), the operation. -/
theorem wpList_brow_append {P : Program} (w : World) {ops : Array Oper} {rest : List Oper} {o : Oper} {a : Act} {Q : Exit → Act → World → Prop} (hgd : o.guard = none) (sl x : Operand) (t u : TypeId)
  (ho : o.op = .call { callee := .builtin .append, args := #[sl, x], argTypes := #[t, u] }) {w0 : World} (e : TypeId) (ht : P.underlying t = some (.slice e)) (hu : P.underlying u = some .string)
  (hinfo : (P.info? e).map (fun i => (i.zero, i.size, i.bytes)) = some (some (.int .u8 0), 1, 1)) (v : Value) (b : ByteArray) (hs : a.eval sl = v) (hown : BRow w w0.heap.size e v b) (s : ByteArray) (hx : a.eval x = .string s)
  (hbytes : b.size + s.size ≤ 140737488355328) (hB : Below w0.heap.size w0 w)
  (h : ∀ v' w', BRow w' w0.heap.size e v' (b ++ s) → Below w0.heap.size w0 w' → wpList P ops Q rest (a.put o.dst v') w') : wpList P ops Q (o :: rest) a w := by
 obtain ⟨i0, hi, hzz⟩ := Option.map_eq_some_iff.1 hinfo
 simp only [Prod.mk.injEq] at hzz
 obtain ⟨hz0, hz1, hz2⟩ := hzz
 refine wpList_plain hgd fun K hK => ?_
 obtain ⟨v', w', hr, h2, h3, h4⟩ := brow_append (P := P) w w0.heap.size t u o.type e i0 ht hu hi hz0 hz1 hz2 v b hown s (by simp only [maxLen]; omega) hbytes hB.size
 unfold Oper.wp execOp
 simp only [ho, resolve, invoke, builtin, Sem.run_bind, Sem.run_pure, Result.andThen_ok, List.map_toArray, List.map_cons, List.map_nil, hs, hx, hr]
 exact hK _ _ (h v' w' h2 (hB.grown h3 hB.size h4))
/-- string(b). -/
theorem brow_string {P : Program} {w : World} {base : Nat} {e' src dst e : TypeId} {v : Value} {s : ByteArray} (hs : P.underlying src = some (.slice e)) (he : P.underlying e = some (.int .u8)) (hd : P.underlying dst = some .string)
  (h : BRow w base e' v s) : (convert src dst v).run P w = .ok (.string s) w := by
 obtain ⟨g, cap, cur, fr, rfl, hbg, hg, hf, hnc, hcm, hcs, htake⟩ := h
 have hr := run_convert_bytes_arg (P := P) w src e hs he g 0 s.size cap (bytesOf s) (bytesOf_length s) (fun i hi => by
  have h1 : (Lib.strCells s)[i]? = some (.int .u8 ((bytesOf s).getD i 0)) := by
   have hi2 : i < s.data.toList.length := by rw [Array.length_toList]; exact hi
   simp [Lib.strCells, bytesOf, List.getElem?_eq_getElem hi2, List.getD_eq_getElem?_getD]
  rw [← htake, List.getElem?_take, if_pos hi] at h1
  rw [Nat.zero_add]
  simp only [World.cell?, hg]
  simpa using h1) dst hd
 rw [hr]
 congr 2
 simp only [strOfNums, bytesOf]
 congr 1
 apply Array.ext'
 simp [Function.comp_def]
theorem brow_below {w W : World} {base : Nat} {e : TypeId} {v : Value} {s : ByteArray} (h : BRow w base e v s) (hb : Below w.heap.size w W) : BRow W base e v s := by
 obtain ⟨g, cap, cur, fr, h1, h2, h3, h4⟩ := h
 exact ⟨g, cap, cur, fr, h1, h2, (hb.block g (blk_lt h3)).trans h3, h4⟩
def code_Nums.l0 : Nat → List Int → ByteArray → Int → Option (ByteArray)
 | 0, _, _, _ => none
 | k + 1, x0, x3, x4 => if x4 < (x0.length : Int) then (if 0 ≤ x4 then ((code_Num.f k (rd x0 x4)).bind fun t1 => (if t1.toList = ([] : List UInt8) then (some (⟨#[]⟩ : ByteArray)) else (if x3.size + t1.size ≤ 140737488355328 then (code_Nums.l0 k x0 (x3 ++ t1) (wrap64 (x4 + 1))) else (none)))) else (none)) else (some x3)
def code_Nums.f (k : Nat) (l0 : List Int) : Option (ByteArray) := (code_Num.f k (l0.length : Int)).bind fun t1 => (if t1.size ≤ 140737488355328 then (code_Nums.l0 k l0 t1 0) else (none))
theorem code_Nums.mono_l : ∀ k, (∀ y0 y1 y2, LeO (code_Nums.l0 k y0 y1 y2) (code_Nums.l0 (k + 1) y0 y1 y2))
 | 0 => fun _ _ _ r h => by simp [code_Nums.l0] at h
 | k + 1 => by
  have ih0 := code_Nums.mono_l k
  intro y0 y1 y2
  unfold code_Nums.l0
  repeat' first | (with_reducible exact ih0 _ _ _) | (with_reducible exact code_Num.mono _ _) | (with_reducible exact LeO.refl _) | (with_reducible exact LeO.none _) | (with_reducible refine LeO.ite ?_ ?_) | (with_reducible refine LeO.bind ?_ (fun _ => ?_))
theorem code_Nums.mono : ∀ a0 k, LeO (code_Nums.f k a0) (code_Nums.f (k + 1) a0) := by
 intro a0 k
 have ih0 := code_Nums.mono_l k
 unfold code_Nums.f
 repeat' first | (with_reducible exact ih0 _ _ _) | (with_reducible exact code_Num.mono _ _) | (with_reducible exact LeO.refl _) | (with_reducible exact LeO.none _) | (with_reducible refine LeO.ite ?_ ?_) | (with_reducible refine LeO.bind ?_ (fun _ => ?_))
set_option maxHeartbeats 8000000 in
set_option maxRecDepth 100000 in
theorem code_Nums.calls (k : Nat) (A0 : Option Addr) (c0 : Nat) (l0 : List Int) (r : ByteArray) (w : World) (hr0 : Kd.C (Kd.int .i64) w A0 l0.length l0) (hc0 : l0.length ≤ c0) (h : code_Nums.f k l0 = some r) :
  Calls Try.prog 18 #[.slice A0 l0.length c0] w fun e w' => e = .returned (.string r) ∧ Below w.heap.size w w' := by
 have HR0 := Aside0.mk hr0
 have HC0 := Aside0.mk hc0
 clear hr0 hc0
 have HB := Aside0.mk (Below.refl w.heap.size w)
 have H : ((code_Num.f k (l0.length : Int)).bind fun t1 => (if t1.size ≤ 140737488355328 then (code_Nums.l0 k l0 t1 0) else (none))) = some r := h
 clear h
 replace H := Option.bind_eq_some_iff.mp H
 obtain ⟨t1, A10, H⟩ := H
 by_cases cS : t1.size ≤ 140737488355328
 ·rw [if_pos cS] at H
  have HS := Aside0.mk cS
  clear cS
  have A1 := Aside0.mk A10
  clear A10
  have H' := Aside0.mk H
  clear H
  have hcv := fun (W : World) => Lib.run_convert_string_bytes (P := Try.prog) W 9 69 5 t1 Try.underlying9 Try.underlying69 Try.underlying5
  go_enter Try.func18, Try.ntmps18
  go_wp2_with (first | ((with_reducible refine gate_callee (f := 14) rfl ?_); refine ge_ (some 9) rfl rfl Try.func14 (by kernel_rfl) rfl #[.int .i64 (l0.length : Int)] rfl (h := ?_); (with_reducible refine (code_Num.calls k (l0.length : Int) t1 _ A1.out).mono ?_); rintro e w3 ⟨rfl, hb⟩; refine ⟨_, rfl, ?_⟩; replace HB := bs_ HB hb; clear hb))
  have HO := Aside0.mk (brow_conv w3 w.heap.size 5 t1 HB.out.size (Nat.le_trans HS.out (by simp [maxLen])))
  replace HB := Aside0.mk (bytes_below HB.out HB.out.size 5 t1)
  go_loopg [3, 13] k (fun kq v3 v13 w' => ∃ (u : Value) (b : ByteArray) (i : Int), v3 = u ∧ v13 = .int .i64 i ∧ Aside0 (BRow w' w.heap.size 5 u b) ∧ Aside0 (code_Nums.l0 kq l0 b i = some r) ∧ Aside0 (kq ≤ k) ∧ Aside0 (Below w.heap.size w w'))
  case atStart => exact ⟨_, t1, 0, rfl, rfl, HO, H', ⟨Nat.le_refl _⟩, HB⟩
  case round =>
   clear H'
   obtain ⟨u, b, i, rfl, rfl, HO, HA, HK1, HB⟩ := hrel
   cases gk with
   | zero => exact absurd HA.out (by simp [code_Nums.l0])
   | succ k1 =>
    have H := HA.out
    clear HA
    simp only [code_Nums.l0] at H
    by_cases c4 : i < (l0.length : Int)
    ·rw [if_pos c4] at H
     have c4b0 : decide (i < (l0.length : Int)) = true := decide_eq_true c4
     by_cases c5 : 0 ≤ i
     ·rw [if_pos c5] at H
      have c5b0 : decide (0 ≤ i) = true := decide_eq_true c5
      replace H := Option.bind_eq_some_iff.mp H
      obtain ⟨t2, A60, H⟩ := H
      have A6 := Aside0.mk A60
      clear A60
      obtain ⟨ad112, e112, hx112_0⟩ := Kd.at_int HR0.out i c5 c4
      cases e112
      replace hx112_0 := cb_ HB hx112_0
      have p112 := eq_true c5
      have q112 := eq_true c4
      clear c4 c5
      by_cases c7 : t2.toList = ([] : List UInt8)
      ·rw [if_pos c7] at H
       have c7b0 : (t2.toList == ([] : List UInt8)) = true := beq_iff_eq.mpr c7
       have c7b1 : (t2.toList != ([] : List UInt8)) = false := bne_eq_false_iff_eq.mpr c7
       clear c7
       obtain rfl := Option.some.inj H
       go_wp2_with ((with_reducible refine gate_callee (f := 14) rfl ?_); refine ge_ (some 18) rfl rfl Try.func14 (by kernel_rfl) rfl #[.int .i64 (rd l0 i)] rfl (h := ?_); (with_reducible refine (code_Num.calls _ (rd l0 i) t2 _ A6.out).mono ?_); rintro e w8 ⟨rfl, hb⟩; refine ⟨_, rfl, ?_⟩; replace HB := bs_ HB hb; clear hb)
       go_ret
       exact ⟨er_, hb_ HB⟩
      ·rw [if_neg c7] at H
       have c7b0 : (t2.toList == ([] : List UInt8)) = false := beq_eq_false_iff_ne.mpr c7
       have c7b1 : (t2.toList != ([] : List UInt8)) = true := bne_iff_ne.mpr c7
       clear c7
       by_cases c10 : b.size + t2.size ≤ 140737488355328
       ·rw [if_pos c10] at H
        have C10 := Aside0.mk c10
        clear c10
        have H' := Aside0.mk H
        clear H
        go_wp2_with (first | ((with_reducible refine gate_callee (f := 14) rfl ?_); refine ge_ (some 18) rfl rfl Try.func14 (by kernel_rfl) rfl #[.int .i64 (rd l0 i)] rfl (h := ?_); (with_reducible refine (code_Num.calls _ (rd l0 i) t2 _ A6.out).mono ?_); rintro e w8 ⟨rfl, hb⟩; refine ⟨_, rfl, ?_⟩; replace HB := bs_ HB hb; replace HO := Aside0.mk (brow_below HO.out hb); clear hb) | (at_builtin; refine wpList_brow_append _ rfl (.tmp 21) (.tmp 22) 69 9 rfl (w0 := w) 5 Try.underlying69 Try.underlying9 (by kernel_rfl) _ b rfl HO.out t2 rfl C10.out HB.out ?_; intro v9 w9 ho hb; replace HO := Aside0.mk ho; replace HB := Aside0.mk hb; clear ho hb))
        go_roundg k1
        case measure => have := HK1.out; omega
        case rel => exact ⟨_, (b ++ t2), (wrap64 (i + 1)), rfl, es_, HO, H', ⟨by have := HK1.out; omega⟩, HB⟩
       ·rw [if_neg c10] at H; exact absurd H (by simp)
     ·rw [if_neg c5] at H; exact absurd H (by simp)
    ·rw [if_neg c4] at H
     have c4b0 : decide (i < (l0.length : Int)) = false := decide_eq_false c4
     clear c4
     obtain rfl := Option.some.inj H
     have hcs := brow_string (P := Try.prog) Try.underlying69 Try.underlying5 Try.underlying9 HO.out
     go_wp2
     go_ret
     exact ⟨er_, hb_ HB⟩
 ·rw [if_neg cS] at H; exact absurd H (by simp)

/-- A state of type 45 at block g of W; what its slices lead to came in by w0. -/
def IsS45 (w0 W : World) (g : Nat) (f0 : ByteArray) (f1 : Int) : Prop := W.heap[g]? = some (.cells #[.string f0, .int .i64 f1] 45 (0, 0)) ∧ w0.heap.size ≤ g
theorem IsS45.grown {w0 W : World} {g : Nat} {f0 : ByteArray} {f1 : Int} {W1 : World} {row : Option Nat} (h : IsS45 w0 W g f0 f1) (hw : W.grownBy W1 row) (hne : some g ≠ row) : IsS45 w0 W1 g f0 f1 := by
 obtain ⟨hb, hg⟩ := h
 exact ⟨blk_grown hb hw hne, hg⟩
theorem IsS45.own_neN {w0 W : World} {g : Nat} {f0 : ByteArray} {f1 : Int} {α : Type} {d : Kd α} {e : Nat} {base : Nat} {ok : Nat → Prop} {v : Value} {xs : List α} (h : IsS45 w0 W g f0 f1) (ho : Kd.N d e W base ok v xs) (ht : e ≠ 45) : some g ≠ v.ownBlock := by
 obtain ⟨hb, hg⟩ := h
 exact Kd.N_ne ho hb ht
theorem IsS45.fresh {w0 W : World} {g : Nat} {f0 : ByteArray} {f1 : Int} (h : IsS45 w0 W g f0 f1) : ∀ k, W.heap.size ≤ k → k ≠ g := by
 obtain ⟨hb, hg⟩ := h
 exact Kd.freshB hb
theorem IsS45.kept {w0 W : World} {g : Nat} {f0 : ByteArray} {f1 : Int} {W1 : World} {S : Nat → Prop} (h : IsS45 w0 W g f0 f1) (hk : Kept W W1 S) (hne : ¬ S g) : IsS45 w0 W1 g f0 f1 := by
 obtain ⟨hb, hg⟩ := h
 exact ⟨blk_kept hb hk hne, hg⟩
theorem IsS45.below {w0 W : World} {g : Nat} {f0 : ByteArray} {f1 : Int} {W1 : World} (h : IsS45 w0 W g f0 f1) (hw : Below W.heap.size W W1) : IsS45 w0 W1 g f0 f1 := h.grown (grown_of_below hw none) (by simp)
theorem IsS45.alloc {w0 W : World} {g : Nat} {f0 : ByteArray} {f1 : Int} (h : IsS45 w0 W g f0 f1) (o : Obj) : IsS45 w0 (W.alloc o) g f0 f1 := h.below (below_alloc (Below.refl _ _) o)
theorem IsS45.drewN {w0 W : World} {g : Nat} {f0 : ByteArray} {f1 : Int} (h : IsS45 w0 W g f0 f1) (m : Nat) : IsS45 w0 (W.drewN m) g f0 f1 := h
theorem IsS45.drew {w0 W : World} {g : Nat} {f0 : ByteArray} {f1 : Int} (h : IsS45 w0 W g f0 f1) : IsS45 w0 W.drew g f0 f1 := h
theorem IsS45.at_ {w0 W : World} {g : Nat} {f0 : ByteArray} {f1 : Int} {w' : World} {m : Nat} (hq : W.drewN m = w') (h : IsS45 w0 W g f0 f1) : IsS45 w0 w' g f0 f1 := by subst hq; exact IsS45.drewN h m
theorem IsS45.apart {w0 W : World} {g : Nat} {f0 : ByteArray} {f1 : Int} {α : Type} {d : Kd α} {e : Nat} {base : Nat} {ok : Nat → Prop} {v : Value} {xs : List α} (h : IsS45 w0 W g f0 f1) (ho : d.R e W base ok v xs) (ht : ∀ q, q ∈ e :: d.E → q ≠ 45) : d.R e W base (fun k => ok k ∧ k ≠ g) v xs := by
 obtain ⟨hb, hg⟩ := h
 exact Kd.R_types ho hb ht
theorem IsS45.own_ne {w0 W : World} {g : Nat} {f0 : ByteArray} {f1 : Int} {α : Type} {d : Kd α} {e : Nat} {base : Nat} {ok : Nat → Prop} {v : Value} {xs : List α} (h : IsS45 w0 W g f0 f1) (ho : d.R e W base ok v xs) (ht : e ≠ 45) : some g ≠ v.ownBlock := by
 obtain ⟨hb, hg⟩ := h
 exact Kd.R_ne ho hb ht
theorem IsS45.apartQ {w0 W : World} {g : Nat} {f0 : ByteArray} {f1 : Int} {α : Type} {d : Kd α} {e : Nat} {base : Nat} {ok : Nat → Prop} {v : Value} {xs : List α} (h : IsS45 w0 W g f0 f1) (ho : d.Q e W base ok v xs) (ht : ∀ q, q ∈ e :: d.E → q ≠ 45) : d.Q e W base (fun k => ok k ∧ k ≠ g) v xs := by
 obtain ⟨hb, hg⟩ := h
 exact Kd.Q_types ho hb ht
theorem IsS45.own_neQ {w0 W : World} {g : Nat} {f0 : ByteArray} {f1 : Int} {α : Type} {d : Kd α} {e : Nat} {base : Nat} {ok : Nat → Prop} {v : Value} {xs : List α} (h : IsS45 w0 W g f0 f1) (ho : d.Q e W base ok v xs) (ht : e ≠ 45) : some g ≠ v.ownBlock := by
 obtain ⟨hb, hg⟩ := h
 exact Kd.Q_ne ho hb ht
theorem IsS45.apartS {w0 W : World} {g : Nat} {f0 : ByteArray} {f1 : Int} {α : Type} {d : Kd α} {e : Nat} {base : Nat} {ok : Nat → Prop} {v : Value} {xs : List α} (h : IsS45 w0 W g f0 f1) (ho : d.S e W base ok v xs) (ht : ∀ q, q ∈ e :: d.E → q ≠ 45) : d.S e W base (fun k => ok k ∧ k ≠ g) v xs := by
 obtain ⟨hb, hg⟩ := h
 exact Kd.S_types ho hb ht
theorem IsS45.own_neS {w0 W : World} {g : Nat} {f0 : ByteArray} {f1 : Int} {α : Type} {d : Kd α} {e : Nat} {base : Nat} {ok : Nat → Prop} {v : Value} {xs : List α} (h : IsS45 w0 W g f0 f1) (ho : d.S e W base ok v xs) (ht : e ≠ 45) : some g ≠ v.ownBlock := by
 obtain ⟨hb, hg⟩ := h
 exact Kd.S_ne ho hb ht
theorem IsS45.lt {w0 W : World} {g : Nat} {f0 : ByteArray} {f1 : Int} (h : IsS45 w0 W g f0 f1) : g < W.heap.size := by
 obtain ⟨hb, hg⟩ := h
 exact blk_lt hb
theorem IsS45.ge {w0 W : World} {g : Nat} {f0 : ByteArray} {f1 : Int} (h : IsS45 w0 W g f0 f1) : w0.heap.size ≤ g := by
 obtain ⟨hb, hg⟩ := h
 exact hg
theorem IsS45.ne_blk {w0 W : World} {g : Nat} {f0 : ByteArray} {f1 : Int} {a : Nat} {cs : Array Value} {t : TypeId} {fr : Nat × Nat} (h : IsS45 w0 W g f0 f1) (hb2 : W.heap[a]? = some (.cells cs t fr)) (ht : t ≠ 45) : g ≠ a := by
 obtain ⟨hb, hg⟩ := h
 rintro rfl
 rw [hb] at hb2
 injection hb2 with hb2
 injection hb2 with _ ht2
 exact ht ht2.symm
theorem IsS45.far {w0 W : World} {g : Nat} {f0 : ByteArray} {f1 : Int} {p : Addr} (h : IsS45 w0 W g f0 f1) (hne : g ≠ p.block) (u : Value) : IsS45 w0 (W.setCell p u) g f0 f1 := by
 obtain ⟨hb, hg⟩ := h
 exact ⟨blk_far hb hne u, hg⟩
theorem cellS45_0 {W : World} {g : Nat} {f0 : ByteArray} {f1 : Int} (h : W.heap[g]? = some (.cells #[.string f0, .int .i64 f1] 45 (0, 0))) : W.cell? ⟨g, 0, none⟩ = some (.string f0) := (blk_cell h 0).trans rfl
theorem IsS45.set_0 {w0 W : World} {g : Nat} {f0 : ByteArray} {f1 : Int} (h : IsS45 w0 W g f0 f1) (x : ByteArray) : IsS45 w0 (W.setCell ⟨g, 0, none⟩ (.string x)) g x f1 := by
 obtain ⟨hb, hg⟩ := h
 exact ⟨by simpa using blk_set hb 0 (.string x), hg⟩
theorem cellS45_1 {W : World} {g : Nat} {f0 : ByteArray} {f1 : Int} (h : W.heap[g]? = some (.cells #[.string f0, .int .i64 f1] 45 (0, 0))) : W.cell? ⟨g, 1, none⟩ = some (.int .i64 f1) := (blk_cell h 1).trans rfl
theorem IsS45.set_1 {w0 W : World} {g : Nat} {f0 : ByteArray} {f1 : Int} (h : IsS45 w0 W g f0 f1) (x : Int) : IsS45 w0 (W.setCell ⟨g, 1, none⟩ (.int .i64 x)) g f0 x := by
 obtain ⟨hb, hg⟩ := h
 exact ⟨by simpa using blk_set hb 1 (.int .i64 x), hg⟩
theorem IsS45.new (w0 W : World) (f0 : ByteArray) (f1 : Int) (hB : Below w0.heap.size w0 W) : IsS45 w0 (W.alloc (.cells #[.string f0, .int .i64 f1] 45)) W.heap.size f0 f1 := ⟨by simpa using heap_alloc_new W _, hB.size⟩

/-! ### code_NewReader: function 21 -/
def code_NewReader.f (a0 : ByteArray) : Option (ByteArray × Int) := some (a0, 0)
set_option maxHeartbeats 8000000 in
set_option maxRecDepth 100000 in
theorem code_NewReader.calls (a0 : ByteArray) (r1 : ByteArray) (r2 : Int) (w0 w : World) (hB : Below w0.heap.size w0 w) (h : code_NewReader.f a0 = some (r1, r2)) :
  Calls Try.prog 21 #[.string a0] w fun e w' => ∃ g_ : Nat, e = .returned (.pointer (some ⟨g_, 0, none⟩)) ∧ IsS45 w0 w' g_ r1 r2 ∧ Below w0.heap.size w0 w' ∧ Below w.heap.size w w' := by
 have hu45 := Try.underlying45
 have HBW := Aside0.mk (Below.refl w.heap.size w)
 have HW0 := Aside0.mk hB.size
 have HB := Aside0.mk hB
 clear hB
 have H : (some (a0, 0)) = some (r1, r2) := h
 clear h
 simp only [Option.some.injEq, Prod.mk.injEq] at H
 obtain ⟨rfl, rfl⟩ := H
 go_enter Try.func21, Try.ntmps21
 go_wp2_with (first | ((with_reducible refine gate_dst (N := 5) rfl ?_); refine be_ (N := 5) (cs := #[.string a0, .int .i64 0]) (t := 45) (h := ?_); intro gb106 hg w2 hbox hb; have BK106 := Aside0.mk (hbox); have GW106 := Aside0.mk ((by rw [hg]; exact (below_size (by repeat (first | (with_reducible first | exact HBW.out | apply below_alloc | apply pw_below_drewN | apply below_drew1) | exact HBW.out))) : w.heap.size ≤ gb106)); have GE106 := Aside0.mk ((Nat.le_trans HW0.out (by rw [hg]; exact (below_size (by repeat (first | (with_reducible first | exact HBW.out | apply below_alloc | apply pw_below_drewN | apply below_drew1) | exact HBW.out))) : w.heap.size ≤ gb106) : w0.heap.size ≤ gb106)); replace HBW := Aside0.mk (below_step HBW.out hb); replace HB := bs_ HB hb; clear hb hbox hg))
 go_ret
 exact ⟨_, rfl, (show IsS45 w0 _ gb106 a0 0 from ⟨by (with_reducible repeat (first | refine blk_drewN ?_ _ | refine blk_drew ?_ | refine blk_alloc ?_ _)); exact BK106.out, GE106.out⟩), hb_ HB, by repeat (first | (with_reducible first | exact HBW.out | apply below_alloc | apply pw_below_drewN | apply below_drew1 | refine below_set ?_ GW106.out) | exact HBW.out)⟩

/-! ### code_Reader_fail: function 60 -/
def code_Reader_fail.f (s0_0 : ByteArray) (s0_1 : Int) (a1 : Int) : Option (ByteArray × Int) := if s0_1 = 0 then (some ((⟨#[]⟩ : ByteArray), a1)) else (some ((⟨#[]⟩ : ByteArray), s0_1))
set_option maxHeartbeats 8000000 in
set_option maxRecDepth 100000 in
theorem code_Reader_fail.calls (g : Nat) (s0_0 : ByteArray) (s0_1 : Int) (a1 : Int) (r1 : ByteArray) (r2 : Int) (w0 w : World) (hI : IsS45 w0 w g s0_0 s0_1) (hB : Below w0.heap.size w0 w) (h : code_Reader_fail.f s0_0 s0_1 a1 = some (r1, r2)) :
  Calls Try.prog 60 #[.pointer (some ⟨g, 0, none⟩), .int .i64 a1] w fun e w' => e = .returned (.tuple #[]) ∧ IsS45 w0 w' g r1 r2 ∧ Below w0.heap.size w0 w' ∧ KeepBut w w' g none := by
 have HI0 := Aside0.mk hI
 have HK := Aside0.mk (KeepBut.refl w g none)
 have HL := Aside0.mk hB.size
 clear hI
 have HW0 := Aside0.mk hB.size
 have HB := Aside0.mk hB
 clear hB
 have H : (if s0_1 = 0 then (some ((⟨#[]⟩ : ByteArray), a1)) else (some ((⟨#[]⟩ : ByteArray), s0_1))) = some (r1, r2) := h
 clear h
 by_cases c3 : s0_1 = 0
 ·rw [if_pos c3] at H
  have c3b0 : (s0_1 == 0) = true := beq_iff_eq.mpr c3
  have c3b1 : (s0_1 != 0) = false := bne_eq_false_iff_eq.mpr c3
  clear c3
  simp only [Option.some.injEq, Prod.mk.injEq] at H
  obtain ⟨rfl, rfl⟩ := H
  obtain ⟨HGz4, hgz4⟩ := HI0.out
  have hcz4_0 := cellS45_0 HGz4
  have hcz4_1 := cellS45_1 HGz4
  have hfz4_0 := blk_frozen HGz4 0
  have hfz4_1 := blk_frozen HGz4 1
  clear HGz4 hgz4
  go_enter Try.func60, Try.ntmps60
  go_wp2
  first | go_end0 | ((try simp only [Exit.inBlock, Exit.then]); refine bodyPost_ret (results_none rfl _ _ _) rfl ?_)
  exact ⟨er_, by repeat (first | (with_reducible first | exact HI0.out | apply IsS45.alloc | apply IsS45.drewN | apply IsS45.drew | apply IsS45.set_0 | apply IsS45.set_1) | exact HI0.out), by repeat (first | (with_reducible first | exact HB.out | apply below_alloc | apply pw_below_drewN | apply below_drew1 | refine below_set ?_ (IsS45.ge HI0.out)) | exact HB.out), by repeat (first | (with_reducible first | exact HK.out | apply KeepBut.set_ | apply keep_drewN | apply keep_drew | apply keep_alloc) | exact HK.out)⟩
 ·rw [if_neg c3] at H
  have c3b0 : (s0_1 == 0) = false := beq_eq_false_iff_ne.mpr c3
  have c3b1 : (s0_1 != 0) = true := bne_iff_ne.mpr c3
  simp only [Option.some.injEq, Prod.mk.injEq] at H
  obtain ⟨rfl, rfl⟩ := H
  obtain ⟨HGz5, hgz5⟩ := HI0.out
  have hcz5_0 := cellS45_0 HGz5
  have hcz5_1 := cellS45_1 HGz5
  have hfz5_0 := blk_frozen HGz5 0
  have hfz5_1 := blk_frozen HGz5 1
  clear HGz5 hgz5
  go_enter Try.func60, Try.ntmps60
  go_wp2
  first | go_end0 | ((try simp only [Exit.inBlock, Exit.then]); refine bodyPost_ret (results_none rfl _ _ _) rfl ?_)
  exact ⟨er_, by repeat (first | (with_reducible first | exact HI0.out | apply IsS45.alloc | apply IsS45.drewN | apply IsS45.drew | apply IsS45.set_0 | apply IsS45.set_1) | exact HI0.out), by repeat (first | (with_reducible first | exact HB.out | apply below_alloc | apply pw_below_drewN | apply below_drew1 | refine below_set ?_ (IsS45.ge HI0.out)) | exact HB.out), by repeat (first | (with_reducible first | exact HK.out | apply KeepBut.set_ | apply keep_drewN | apply keep_drew | apply keep_alloc) | exact HK.out)⟩

/-! ### code_Reader_take: function 58 -/
def code_Reader_take.f (s0_0 : ByteArray) (s0_1 : Int) (a1 : Int) : Option (ByteArray × Bool × ByteArray × Int) := if s0_1 = 0 then (if a1 > (s0_0.size : Int) then ((code_Reader_fail.f s0_0 s0_1 2).bind fun bt107 => (some ((⟨#[]⟩ : ByteArray), false, bt107.1, bt107.2))) else (if 0 ≤ a1 then (if a1 ≤ (s0_0.size : Int) then (some (s0_0.extract 0 (a1 : Int).toNat, true, s0_0.extract (a1 : Int).toNat s0_0.size, s0_1)) else (none)) else (none))) else (some ((⟨#[]⟩ : ByteArray), false, s0_0, s0_1))
set_option maxHeartbeats 8000000 in
set_option maxRecDepth 100000 in
theorem code_Reader_take.calls (g : Nat) (s0_0 : ByteArray) (s0_1 : Int) (a1 : Int) (r1 : ByteArray) (r2 : Bool) (r3 : ByteArray) (r4 : Int) (w0 w : World) (hI : IsS45 w0 w g s0_0 s0_1) (hB : Below w0.heap.size w0 w) (h : code_Reader_take.f s0_0 s0_1 a1 = some (r1, r2, r3, r4)) :
  Calls Try.prog 58 #[.pointer (some ⟨g, 0, none⟩), .int .i64 a1] w fun e w' => e = .returned (.tuple #[.string r1, .bool r2]) ∧ IsS45 w0 w' g r3 r4 ∧ Below w0.heap.size w0 w' ∧ KeepBut w w' g none := by
 have HI0 := Aside0.mk hI
 have HK := Aside0.mk (KeepBut.refl w g none)
 have HL := Aside0.mk hB.size
 clear hI
 have HW0 := Aside0.mk hB.size
 have HB := Aside0.mk hB
 clear hB
 have H : (if s0_1 = 0 then (if a1 > (s0_0.size : Int) then ((code_Reader_fail.f s0_0 s0_1 2).bind fun bt107 => (some ((⟨#[]⟩ : ByteArray), false, bt107.1, bt107.2))) else (if 0 ≤ a1 then (if a1 ≤ (s0_0.size : Int) then (some (s0_0.extract 0 (a1 : Int).toNat, true, s0_0.extract (a1 : Int).toNat s0_0.size, s0_1)) else (none)) else (none))) else (some ((⟨#[]⟩ : ByteArray), false, s0_0, s0_1))) = some (r1, r2, r3, r4) := h
 clear h
 by_cases c3 : s0_1 = 0
 ·rw [if_pos c3] at H
  have c3b0 : (s0_1 == 0) = true := beq_iff_eq.mpr c3
  have c3b1 : (s0_1 != 0) = false := bne_eq_false_iff_eq.mpr c3
  clear c3
  by_cases c4 : a1 > (s0_0.size : Int)
  ·rw [if_pos c4] at H
   have c4b0 : decide ((s0_0.size : Int) < a1) = true := decide_eq_true c4
   clear c4
   replace H := Option.bind_eq_some_iff.mp H
   obtain ⟨⟨t107, t108⟩, A50, H⟩ := H
   replace H : (some ((⟨#[]⟩ : ByteArray), false, t107, t108)) = some (r1, r2, r3, r4) := H
   have A5 := Aside0.mk A50
   clear A50
   simp only [Option.some.injEq, Prod.mk.injEq] at H
   obtain ⟨rfl, rfl, rfl, rfl⟩ := H
   obtain ⟨HGz6, hgz6⟩ := HI0.out
   have hcz6_0 := cellS45_0 HGz6
   have hcz6_1 := cellS45_1 HGz6
   have hfz6_0 := blk_frozen HGz6 0
   have hfz6_1 := blk_frozen HGz6 1
   clear HGz6 hgz6
   go_enter Try.func58, Try.ntmps58
   go_wp2_with (first | ((with_reducible refine gate_callee (f := 60) rfl ?_); refine ge_ (some 20) rfl rfl Try.func60 (by kernel_rfl) rfl #[.pointer (some ⟨g, 0, none⟩), .int .i64 2] rfl (h := ?_); (with_reducible refine (code_Reader_fail.calls g s0_0 s0_1 2 t107 t108 w0 _ ?side1 ?side2 A5.out).mono ?_); (case side1 => repeat (first | (with_reducible first | exact HI0.out | apply IsS45.alloc | apply IsS45.drewN | apply IsS45.drew | apply IsS45.set_0 | apply IsS45.set_1) | exact HI0.out)); (case side2 => repeat (first | (with_reducible first | exact HB.out | apply below_alloc | apply pw_below_drewN | apply below_drew1 | refine below_set ?_ (IsS45.ge HI0.out)) | exact HB.out)); rintro e w7 ⟨rfl, hi, hb, hk⟩; refine ⟨_, rfl, ?_⟩; replace HK := Aside0.mk (KeepBut.trans (by repeat (first | (with_reducible first | exact HK.out | apply KeepBut.set_ | apply keep_drewN | apply keep_drew | apply keep_alloc) | exact HK.out)) hk (.inl rfl)); replace HB := Aside0.mk (hb); replace HI0 := Aside0.mk (hi); (try clear hb); (try clear hb2); (try clear hk); (try clear hi)))
   go_ret2
   exact ⟨er_, by repeat (first | (with_reducible first | exact HI0.out | apply IsS45.alloc | apply IsS45.drewN | apply IsS45.drew | apply IsS45.set_0 | apply IsS45.set_1) | exact HI0.out), by repeat (first | (with_reducible first | exact HB.out | apply below_alloc | apply pw_below_drewN | apply below_drew1 | refine below_set ?_ (IsS45.ge HI0.out)) | exact HB.out), by repeat (first | (with_reducible first | exact HK.out | apply KeepBut.set_ | apply keep_drewN | apply keep_drew | apply keep_alloc) | exact HK.out)⟩
  ·rw [if_neg c4] at H
   have c4b0 : decide ((s0_0.size : Int) < a1) = false := decide_eq_false c4
   clear c4
   by_cases c8 : 0 ≤ a1
   ·rw [if_pos c8] at H
    have c8b0 := eq_true c8
    try (have c8b0x := c8b0; simp only [ByteArray.size_extract, Nat.min_self] at c8b0x)
    have c8b1 : decide (0 ≤ a1) = true := decide_eq_true c8
    clear c8
    by_cases c9 : a1 ≤ (s0_0.size : Int)
    ·rw [if_pos c9] at H
     have c9b0 := eq_true c9
     try (have c9b0x := c9b0; simp only [ByteArray.size_extract, Nat.min_self] at c9b0x)
     have c9b1 : decide (a1 ≤ (s0_0.size : Int)) = true := decide_eq_true c9
     clear c9
     have c10b0 := eq_true (of_decide_eq_true as_ : 0 ≤ a1)
     have c11b0 := eq_true (of_decide_eq_true as_ : a1 ≤ (s0_0.size : Int))
     simp only [Option.some.injEq, Prod.mk.injEq] at H
     obtain ⟨rfl, rfl, rfl, rfl⟩ := H
     obtain ⟨HGz12, hgz12⟩ := HI0.out
     have hcz12_0 := cellS45_0 HGz12
     have hcz12_1 := cellS45_1 HGz12
     have hfz12_0 := blk_frozen HGz12 0
     have hfz12_1 := blk_frozen HGz12 1
     clear HGz12 hgz12
     go_enter Try.func58, Try.ntmps58
     go_wp2
     go_ret2
     exact ⟨er_, by repeat (first | (with_reducible first | exact HI0.out | apply IsS45.alloc | apply IsS45.drewN | apply IsS45.drew | apply IsS45.set_0 | apply IsS45.set_1) | exact HI0.out), by repeat (first | (with_reducible first | exact HB.out | apply below_alloc | apply pw_below_drewN | apply below_drew1 | refine below_set ?_ (IsS45.ge HI0.out)) | exact HB.out), by repeat (first | (with_reducible first | exact HK.out | apply KeepBut.set_ | apply keep_drewN | apply keep_drew | apply keep_alloc) | exact HK.out)⟩
    ·rw [if_neg c9] at H
     exact absurd H (by simp)
   ·rw [if_neg c8] at H
    exact absurd H (by simp)
 ·rw [if_neg c3] at H
  have c3b0 : (s0_1 == 0) = false := beq_eq_false_iff_ne.mpr c3
  have c3b1 : (s0_1 != 0) = true := bne_iff_ne.mpr c3
  simp only [Option.some.injEq, Prod.mk.injEq] at H
  obtain ⟨rfl, rfl, rfl, rfl⟩ := H
  obtain ⟨HGz13, hgz13⟩ := HI0.out
  have hcz13_0 := cellS45_0 HGz13
  have hcz13_1 := cellS45_1 HGz13
  have hfz13_0 := blk_frozen HGz13 0
  have hfz13_1 := blk_frozen HGz13 1
  clear HGz13 hgz13
  go_enter Try.func58, Try.ntmps58
  go_wp2
  go_ret2
  exact ⟨er_, by repeat (first | (with_reducible first | exact HI0.out | apply IsS45.alloc | apply IsS45.drewN | apply IsS45.drew | apply IsS45.set_0 | apply IsS45.set_1) | exact HI0.out), by repeat (first | (with_reducible first | exact HB.out | apply below_alloc | apply pw_below_drewN | apply below_drew1 | refine below_set ?_ (IsS45.ge HI0.out)) | exact HB.out), by repeat (first | (with_reducible first | exact HK.out | apply KeepBut.set_ | apply keep_drewN | apply keep_drew | apply keep_alloc) | exact HK.out)⟩

/-! ### code_Reader_Num: function 22, by hand (code.Reader.Num.lean) -/
set_option maxHeartbeats 1000000 in
set_option maxRecDepth 100000 in
theorem code_Reader_Num_at (s : ByteArray) (i : Int) (b : Nat) (w : World) (h0 : 0 ≤ i) (h1 : i < s.size) (h3 : i ≤ 3) (hc : w.cell? ⟨b, 0, none⟩ = some (.string s)) :
  Calls Try.prog 59 #[.int .i64 i, .pointer (some ⟨b, 0, none⟩)] w fun e w' => e = .returned (.int .i64 (bt s i * 2 ^ (8 * i).toNat)) ∧ w = w' := by
 have hb := bt_at s i
 have hr := bt_range s i
 have hw : wrap64 (bt s i * 2 ^ (8 * i).toNat) = bt s i * 2 ^ (8 * i).toNat := by
  have h : i = 0 ∨ i = 1 ∨ i = 2 ∨ i = 3 := by omega
  rcases h with rfl | rfl | rfl | rfl <;> simp only [Int.reduceMul, Int.reduceToNat, Nat.reducePow, Int.reducePow] <;> unfold wrap64 <;> omega
 have HW := Aside0.mk hw
 clear hw
 go_enter Try.func59, Try.ntmps59
 go_wp2
 go_ret
 exact ⟨by show Ending.returned (.int .i64 (wrap64 (bt s i * 2 ^ (8 * i).toNat))) = _; rw [HW.out], rfl⟩

/-- A reader's number. -/
def num4 (s : ByteArray) : Int := bt s 0 + 256 * bt s 1 + 65536 * bt s 2 + 16777216 * bt s 3
def acc4 (s : ByteArray) : Nat → Int
 | 0 => 0
 | k + 1 => Go.bits .or .i64 (acc4 s k) (bt s (k : Int) * 2 ^ (8 * (k : Int)).toNat)
theorem or_low (i : Nat) (y x : Int) (hx0 : 0 ≤ x) (hx : x % 2 ^ i = 0) (hx1 : x < 2 ^ 32) (hy0 : 0 ≤ y) (hy : y < 2 ^ i) (hy1 : y < 2 ^ 32) : Go.bits .or .i64 y x = y + x := by
 obtain ⟨a, rfl⟩ := Int.eq_ofNat_of_zero_le hx0
 obtain ⟨b, rfl⟩ := Int.eq_ofNat_of_zero_le hy0
 have ha : a < 2 ^ 32 := by exact_mod_cast hx1
 have hb : b < 2 ^ 32 := by exact_mod_cast hy1
 have hk : ∀ n : Int, 0 ≤ n → n < 2 ^ 32 → IntKind.i64.wrap n = n := fun n h0 h1 => by
  rw [Go.IntKind.wrap_i64]; omega
 rw [(Go.bits_nat .i64 32 (by decide) hk b a hb ha).2, Nat.or_comm, ← (Go.bits_nat .i64 32 (by decide) hk a b ha hb).2,
  Go.bits_join .i64 32 (by decide) hk i _ _ hx0 hx hx1 hy0 hy hy1]
 omega
theorem acc4_num (s : ByteArray) : acc4 s 4 = num4 s := by
 have h0 := bt_range s 0
 have h1 := bt_range s 1
 have h2 := bt_range s 2
 have h3 := bt_range s 3
 unfold num4
 simp only [acc4, Nat.reduceAdd, Int.reduceMul, Int.reduceToNat, Nat.reducePow, Int.reducePow, Int.cast_ofNat_Int, Int.ofNat_eq_natCast]
 generalize bt s 0 = a at *
 generalize bt s 1 = b at *
 generalize bt s 2 = c at *
 generalize bt s 3 = d at *
 have e0 : Go.bits .or .i64 0 (a * 1) = a := by rw [or_low 0 0 (a * 1) (by omega) (by omega) (by omega) (by omega) (by omega) (by omega)]; omega
 rw [e0, or_low 8 a (b * 256) (by omega) (by omega) (by omega) (by omega) (by omega) (by omega), or_low 16 (a + b * 256) (c * 65536) (by omega) (by omega) (by omega) (by omega) (by omega) (by omega),
  or_low 24 (a + b * 256 + c * 65536) (d * 16777216) (by omega) (by omega) (by omega) (by omega) (by omega) (by omega)]
 omega

def code_Reader_Num.f (s0_0 : ByteArray) (s0_1 : Int) : Option (Int × ByteArray × Int) :=
 (code_Reader_take.f s0_0 s0_1 4).bind fun bt107 => if bt107.2.1 = true then (if bt107.1.size = 4 then (if num4 bt107.1 > 2147483647 then ((code_Reader_fail.f bt107.2.2.1 bt107.2.2.2 6).bind fun bt108 => some (0, bt108.1, bt108.2)) else some (num4 bt107.1, bt107.2.2.1, bt107.2.2.2)) else none) else some (0, bt107.2.2.1, bt107.2.2.2)

set_option maxHeartbeats 4000000 in
set_option maxRecDepth 100000 in
theorem code_Reader_Num.calls (g : Nat) (s0_0 : ByteArray) (s0_1 : Int) (r1 : Int) (r2 : ByteArray) (r3 : Int) (w0 w : World) (hI : IsS45 w0 w g s0_0 s0_1) (hB : Below w0.heap.size w0 w) (h : code_Reader_Num.f s0_0 s0_1 = some (r1, r2, r3)) :
  Calls Try.prog 22 #[.pointer (some ⟨g, 0, none⟩)] w fun e w' => e = .returned (.int .i64 r1) ∧ IsS45 w0 w' g r2 r3 ∧ Below w0.heap.size w0 w' ∧ KeepBut w w' g none := by
 unfold code_Reader_Num.f at h
 obtain ⟨⟨s, ok, t2, t3⟩, A1, H⟩ := Option.bind_eq_some_iff.mp h
 clear h
 simp only at H
 have HA := Aside0.mk A1
 have HIh := Aside0.mk hI
 have HBh := Aside0.mk hB
 clear A1 hI hB
 have hpe := fun (W : World) (p : Option Addr) => run_eql_pointer_nil (P := Try.prog) W 30 p (by kernel_rfl)
 cases ok with
 | false =>
  simp only [Bool.false_eq_true, if_false, Option.some.injEq, Prod.mk.injEq] at H
  obtain ⟨rfl, rfl, rfl⟩ := H
  go_enter Try.func22, Try.ntmps22
  go_wp2_with (go_at_call 58; refine (code_Reader_take.calls g s0_0 s0_1 4 s false _ _ w0 _ HIh.out HBh.out HA.out).mono ?_; rintro e w1 ⟨rfl, hi, hb, hk⟩)
  go_ret
  exact ⟨rfl, hi.alloc _, hb.alloc hb.size _, keep_alloc hk _⟩
 | true =>
  simp only [if_true] at H
  by_cases h4 : s.size = 4
  ·rw [if_pos h4] at H
   have hmax : s.size ≤ 4 ∧ 4 ≤ s.size := by omega
   clear h4
   by_cases hgt : num4 s > 2147483647
   ·rw [if_pos hgt] at H
    obtain ⟨⟨u1, u2⟩, A2, H⟩ := Option.bind_eq_some_iff.mp H
    simp only [Option.some.injEq, Prod.mk.injEq] at H
    obtain ⟨rfl, rfl, rfl⟩ := H
    have HA2 := Aside0.mk A2
    have hgb := Aside0.mk hgt
    clear A2 hgt
    go_enter Try.func22, Try.ntmps22
    go_wp2_with (go_at_call 58; refine (code_Reader_take.calls g s0_0 s0_1 4 s true _ _ w0 _ HIh.out HBh.out HA.out).mono ?_; rintro e w1 ⟨rfl, hi, hb, hk⟩)
    go_loop [6, 18] (fun n c => ∃ k : Nat, k ≤ 4 ∧ c = .int .i64 k ∧ n = .int .i64 (acc4 s k)) (fun _ c => 4 - (intOf c).toNat)
    case atStart => exact ⟨0, by omega, rfl, rfl⟩
    case round =>
     obtain ⟨k, hk4, rfl, rfl⟩ := hrel
     by_cases hlt : k < 4
     ·go_wp2_with (go_at_call 59; refine (code_Reader_Num_at s _ _ _ (by omega) (by omega) (by omega) (by simp)).mono ?_; rintro e w2 ⟨rfl, rfl⟩)
      go_round
      case rel => exact ⟨k + 1, by omega, by go_num, rfl⟩
      case measure => simp [intOf]; omega
     ·obtain rfl : k = 4 := by omega
      have hd : decide (2147483647 < acc4 s 4) = true := by rw [acc4_num]; exact decide_eq_true hgb.out
      go_wp2_with (go_at_call 60; refine (code_Reader_fail.calls g _ _ 6 _ _ w0 _ (hi.alloc _) (hb.alloc hb.size _) HA2.out).mono ?_; rintro e w2 ⟨rfl, hi2, hb2, hk2⟩)
      go_ret
      exact ⟨rfl, hi2, hb2, KeepBut.trans (keep_alloc hk _) hk2 (.inl rfl)⟩
   ·rw [if_neg hgt] at H
    simp only [Option.some.injEq, Prod.mk.injEq] at H
    obtain ⟨rfl, rfl, rfl⟩ := H
    have hgb := Aside0.mk hgt
    clear hgt
    go_enter Try.func22, Try.ntmps22
    go_wp2_with (go_at_call 58; refine (code_Reader_take.calls g s0_0 s0_1 4 s true _ _ w0 _ HIh.out HBh.out HA.out).mono ?_; rintro e w1 ⟨rfl, hi, hb, hk⟩)
    go_loop [6, 18] (fun n c => ∃ k : Nat, k ≤ 4 ∧ c = .int .i64 k ∧ n = .int .i64 (acc4 s k)) (fun _ c => 4 - (intOf c).toNat)
    case atStart => exact ⟨0, by omega, rfl, rfl⟩
    case round =>
     obtain ⟨k, hk4, rfl, rfl⟩ := hrel
     by_cases hlt : k < 4
     ·go_wp2_with (go_at_call 59; refine (code_Reader_Num_at s _ _ _ (by omega) (by omega) (by omega) (by simp)).mono ?_; rintro e w2 ⟨rfl, rfl⟩)
      go_round
      case rel => exact ⟨k + 1, by omega, by go_num, rfl⟩
      case measure => simp [intOf]; omega
     ·obtain rfl : k = 4 := by omega
      have hd : decide (2147483647 < acc4 s 4) = false := by rw [acc4_num]; exact decide_eq_false (Int.not_lt.2 hgb.out)
      go_wp2
      go_ret
      exact ⟨by show Ending.returned (.int .i64 (acc4 s 4)) = _; rw [acc4_num], hi.alloc _, hb.alloc hb.size _, keep_alloc hk _⟩
  ·rw [if_neg h4] at H; exact absurd H (by simp)

def code_Reader_Num_nil.f (_ : Unit) : Option (Int) := some 0
theorem code_Reader_Num_nil.calls (u : Unit) (r1 : Int) (w : World) (h : code_Reader_Num_nil.f u = some r1) :
  Calls Try.prog 22 #[.pointer none] w fun e w' => e = .returned (.int .i64 r1) ∧ Below w.heap.size w w' := by
 have hpn := fun (W : World) (p : Option Addr) => run_eql_pointer_nil (P := Try.prog) W 30 p (by kernel_rfl)
 obtain rfl := Option.some.inj h
 clear h
 go_enter Try.func22, Try.ntmps22
 go_wp2
 go_ret
 exact ⟨rfl, Below.refl _ _⟩
def code_Reader_Text_nil.f (_ : Unit) (_ : Int) : Option (ByteArray) := some ⟨#[]⟩
theorem code_Reader_Text_nil.calls (u : Unit) (a1 : Int) (r1 : ByteArray) (w : World) (h : code_Reader_Text_nil.f u a1 = some r1) :
  Calls Try.prog 24 #[.pointer none, .int .i64 a1] w fun e w' => e = .returned (.string r1) ∧ Below w.heap.size w w' := by
 have hpn := fun (W : World) (p : Option Addr) => run_eql_pointer_nil (P := Try.prog) W 30 p (by kernel_rfl)
 obtain rfl := Option.some.inj h
 clear h
 go_enter Try.func24, Try.ntmps24
 go_wp2
 go_ret
 exact ⟨rfl, Below.refl _ _⟩
def code_Reader_Nums_nil.f (_ : Unit) (_ : Int) : Option (List Int) := some []
theorem code_Reader_Nums_nil.calls (u : Unit) (a1 : Int) (r1 : List Int) (w : World) (h : code_Reader_Nums_nil.f u a1 = some r1) :
  Calls Try.prog 27 #[.pointer none, .int .i64 a1] w fun e w' => ∃ v0_ : Value, e = .returned v0_ ∧ Kd.R (Kd.int .i64) 3 w' w.heap.size (fun _ => True) v0_ r1 ∧ Below w.heap.size w w' := by
 have hpn := fun (W : World) (p : Option Addr) => run_eql_pointer_nil (P := Try.prog) W 30 p (by kernel_rfl)
 obtain rfl := Option.some.inj h
 clear h
 go_enter Try.func27, Try.ntmps27
 go_wp2
 go_ret
 exact ⟨.slice none 0 0, rfl, Kd.R_nil _ _ _ _ _, Below.refl _ _⟩
def code_Reader_Left_nil.f (_ : Unit) : Option (Int) := some 0
theorem code_Reader_Left_nil.calls (u : Unit) (r1 : Int) (w : World) (h : code_Reader_Left_nil.f u = some r1) :
  Calls Try.prog 29 #[.pointer none] w fun e w' => e = .returned (.int .i64 r1) ∧ Below w.heap.size w w' := by
 have hpn := fun (W : World) (p : Option Addr) => run_eql_pointer_nil (P := Try.prog) W 30 p (by kernel_rfl)
 obtain rfl := Option.some.inj h
 clear h
 go_enter Try.func29, Try.ntmps29
 go_wp2
 go_ret
 exact ⟨rfl, Below.refl _ _⟩
def code_Reader_Err_nil.f (_ : Unit) : Option (Int) := some 2
theorem code_Reader_Err_nil.calls (u : Unit) (r1 : Int) (w : World) (h : code_Reader_Err_nil.f u = some r1) :
  Calls Try.prog 30 #[.pointer none] w fun e w' => e = .returned (.int .i64 r1) ∧ Below w.heap.size w w' := by
 have hpn := fun (W : World) (p : Option Addr) => run_eql_pointer_nil (P := Try.prog) W 30 p (by kernel_rfl)
 obtain rfl := Option.some.inj h
 clear h
 go_enter Try.func30, Try.ntmps30
 go_wp2
 go_ret
 exact ⟨rfl, Below.refl _ _⟩

end Go.Proofs.Ytjobaaolohemgaa.PCodeOnce
