/- Of the law calamus/calamuslaw32.FallChoices: each function as a plain Lean function, with a proof that the call comes to it; the row. By wip/tpl/own_print.py. Conditions: none but the row's own. -/
import Derived.Test.YtjobaaolohemgaaOFallChoicesx0
namespace Go.Proofs.Ytjobaaolohemgaa.PFallChoices
open Go.RowKit Go.Proofs.YtjobaaolohemgaaW.PrintWords Go.Proofs.YtjobaaolohemgaaW.PrintLast Go.Proofs.YtjobaaolohemgaaW.PrintMore
attribute [local go_sem] max2_int min2_int max_two min_two max_three min_three max_four min_four   -- for this text's walks alone
set_option linter.unusedVariables false
set_option linter.unusedSimpArgs false

/-! ### fall_right: function 70, by hand (fall.right.lean) -/
def okn (n : Int) : Bool := decide (0 ≤ n) && decide (n ≤ 1073741824)
set_option maxHeartbeats 1000000 in
set_option maxRecDepth 100000 in
theorem fall_right1 (i n : Int) (b : Bool) (C : Nat) (w : World) (h : w.heap[C]? = some (.cells #[.bool b] 4 (0, 0))) :
  Calls Try.prog 83 #[.int .i64 i, .int .i64 n, .pointer (some ⟨C, 0, none⟩)] w fun e w' => e = .returned (.tuple #[]) ∧ w' = w.setCell ⟨C, 0, none⟩ (.bool (b && okn n)) := by
 have hc := cell_of_one h
 have hf := free_of_one h
 clear h
 cases b with
 | false =>
  rw [Bool.false_and]
  go_enter Try.func83, Try.ntmps83
  go_wp2
  first | go_end0 | ((try simp only [Exit.inBlock, Exit.then]); refine bodyPost_ret (results_none rfl _ _ _) rfl ?_)
  exact ⟨rfl, rfl⟩
 | true =>
  rw [Bool.true_and]
  by_cases h0 : 0 ≤ n
  ·have d0 : decide (0 ≤ n) = true := decide_eq_true h0
   by_cases h1 : n ≤ 1073741824
   ·have d1 : decide (n ≤ 1073741824) = true := decide_eq_true h1
    have e : okn n = true := by unfold okn; rw [d0, d1]; rfl
    rw [e]
    clear e h0 h1
    go_enter Try.func83, Try.ntmps83
    go_wp2
    first | go_end0 | ((try simp only [Exit.inBlock, Exit.then]); refine bodyPost_ret (results_none rfl _ _ _) rfl ?_)
    exact ⟨rfl, rfl⟩
   ·have d1 : decide (n ≤ 1073741824) = false := decide_eq_false h1
    have e : okn n = false := by unfold okn; rw [d0, d1]; rfl
    rw [e]
    clear e h0 h1
    go_enter Try.func83, Try.ntmps83
    go_wp2
    first | go_end0 | ((try simp only [Exit.inBlock, Exit.then]); refine bodyPost_ret (results_none rfl _ _ _) rfl ?_)
    exact ⟨rfl, rfl⟩
  ·have d0 : decide (0 ≤ n) = false := decide_eq_false h0
   have e : okn n = false := by unfold okn; rw [d0]; rfl
   rw [e]
   clear e h0
   go_enter Try.func83, Try.ntmps83
   go_wp2
   first | go_end0 | ((try simp only [Exit.inBlock, Exit.then]); refine bodyPost_ret (results_none rfl _ _ _) rfl ?_)
   exact ⟨rfl, rfl⟩
set_option maxHeartbeats 2000000 in
set_option maxRecDepth 100000 in
/-- each, with the closure of right. -/
theorem fall_each_r (C : Nat) (d : Int) (l : List Int) (A : Option Addr) (c : Nat) (w : World) (I : Nat → World → Prop) (hlc : l.length ≤ c) (hlm : l.length ≤ 17592186044416)
  (h0 : I 0 (w.alloc (.cells #[.int .i64 d, .slice A l.length c] 58 (0, 0))))
  (hbox : ∀ j w', I j w' → w'.heap[w.heap.size]? = some (.cells #[.int .i64 d, .slice A l.length c] 58 (0, 0)))
  (hl : ∀ j w', I j w' → Kd.C (Kd.int .i64) w' A l.length l)
  (hs0 : ∀ w', I 0 w' → Calls Try.prog 83 #[.int .i64 (-1), .int .i64 d, .pointer (some ⟨C, 0, none⟩)] w' fun e w'' => e = .returned (.tuple #[]) ∧ I 1 w'')
  (hs : ∀ (k : Nat) w', k < l.length → I (k + 1) w' → Calls Try.prog 83 #[.int .i64 k, .int .i64 (rd l k), .pointer (some ⟨C, 0, none⟩)] w' fun e w'' => e = .returned (.tuple #[]) ∧ I (k + 2) w'') :
  Calls Try.prog 77 #[.agg #[.int .i64 d, .slice A l.length c], .func (.func 83) #[] #[.pointer (some ⟨C, 0, none⟩)]] w fun e w' => e = .returned (.tuple #[]) ∧ I (l.length + 1) w' := by
 have H0 := Aside0.mk h0
 have HBOX := Aside0.mk hbox
 have HL := Aside0.mk hl
 have HS0 := Aside0.mk hs0
 have HS := Aside0.mk hs
 clear h0 hbox hl hs0 hs
 have hlm' : (l.length : Int) ≤ 17592186044416 := by omega
 go_enter Try.func77, Try.ntmps77
 go_wp2_with (go_at_call 83; (with_reducible refine (HS0.out _ H0.out).mono ?_); rintro e w1 ⟨rfl, h1⟩; have HI := Aside0.mk h1; clear h1; obtain ⟨hb0, hb1, hb2, hb3⟩ := bc2_ (Aside0.mk (HBOX.out _ _ HI.out)))
 go_loopw [13] (fun i wr => ∃ k : Nat, k ≤ l.length ∧ i = .int .i64 k ∧ Aside0 (I (k + 1) wr)) (fun i _ => l.length - (intOf i).toNat)
 case atStart => exact ⟨0, Nat.zero_le _, rfl, HI⟩
 case round =>
  clear hb0 hb1 hb2 hb3
  obtain ⟨k, hk, rfl, HJ⟩ := hrel
  by_cases hlt : k < l.length
  ·have hltI : (k : Int) < (l.length : Int) := by omega
   have hk0 : (0 : Int) ≤ (k : Int) := by omega
   obtain ⟨ad, e0, hx⟩ := Kd.at_int (HL.out _ _ HJ.out) (k : Int) hk0 hltI
   rw [Int.toNat_natCast] at hx
   cases e0
   go_wp2_with (go_at_call 83; (with_reducible refine (HS.out k _ hlt HJ.out).mono ?_); rintro e w2 ⟨rfl, h2⟩; have HI2 := Aside0.mk h2; clear h2)
   go_roundw
   case rel => exact ⟨k + 1, by omega, by go_num, HI2⟩
   case measure => simp [intOf]; omega
  ·obtain rfl : k = l.length := by omega
   go_wp2
   first | go_end0 | ((try simp only [Exit.inBlock, Exit.then]); refine bodyPost_ret (results_none rfl _ _ _) rfl ?_)
   exact ⟨rfl, HJ.out⟩
def RInv (W0 : World) (C B : Nat) (bx : Obj) (d : Int) (l : List Int) (j : Nat) (w : World) : Prop :=
 w.heap[C]? = some (.cells #[.bool (((d :: l).take j).all okn)] 4 (0, 0)) ∧ w.heap[B]? = some bx ∧ Below W0.heap.size W0 w ∧ W0.heap.size ≤ C ∧ B ≠ C
theorem RInv.step {W0 : World} {C B : Nat} {cs : Array Value} {t : TypeId} {d : Int} {l : List Int} {j : Nat} {w : World} {x : Int} (h : RInv W0 C B (.cells cs t (0, 0)) d l j w) (hx : (d :: l)[j]? = some x) : RInv W0 C B (.cells cs t (0, 0)) d l (j + 1) (w.setCell ⟨C, 0, none⟩ (.bool (((d :: l).take j).all okn && okn x))) := by
 obtain ⟨h1, h2, h3, h4, h5⟩ := h
 have e : ((d :: l).take (j + 1)).all okn = (((d :: l).take j).all okn && okn x) := by
  rw [List.take_add_one, hx]
  simp
 refine ⟨?_, blk_far h2 h5 _, below_set h3 h4, h4, h5⟩
 rw [e]
 exact one_setCell h1
theorem rd_some {l : List Int} {k : Nat} (h : k < l.length) : l[k]? = some (rd l k) := by
 unfold rd
 rw [Int.toNat_natCast, List.getD_eq_getElem?_getD, List.getElem?_eq_getElem h]; rfl
def fall_right.f (a0_0 : Int) (l0_1 : List Int) : Option Bool := if l0_1.length ≤ 17592186044416 then some ((a0_0 :: l0_1).all okn) else none
set_option maxHeartbeats 4000000 in
set_option maxRecDepth 100000 in
theorem fall_right.calls (a0_0 : Int) (A0_1 : Option Addr) (c0_1 : Nat) (l0_1 : List Int) (r : Bool) (w : World) (hr0_1 : Kd.C (Kd.int .i64) w A0_1 l0_1.length l0_1) (hc0_1 : l0_1.length ≤ c0_1) (h : fall_right.f a0_0 l0_1 = some r) :
  Calls Try.prog 70 #[.agg #[.int .i64 a0_0, .slice A0_1 l0_1.length c0_1]] w fun e w' => e = .returned (.bool r) ∧ Below w.heap.size w w' := by
 have HR := Aside0.mk hr0_1
 have HC := Aside0.mk hc0_1
 clear hr0_1 hc0_1
 have HB := Aside0.mk (Below.refl w.heap.size w)
 have hh : l0_1.length ≤ 17592186044416 ∧ (a0_0 :: l0_1).all okn = r := by
  unfold fall_right.f at h
  by_cases g : l0_1.length ≤ 17592186044416
  ·rw [if_pos g] at h; exact ⟨g, Option.some.inj h⟩
  ·rw [if_neg g] at h; exact absurd h (by simp)
 clear h
 obtain ⟨hl, rfl⟩ := hh
 have HLM := Aside0.mk hl
 clear hl
 go_enter Try.func70, Try.ntmps70
 go_wp2_with (first | ((with_reducible refine gate_dst (N := 1) rfl ?_); refine be_ (N := 1) (cs := #[.int .i64 a0_0, .slice A0_1 l0_1.length c0_1]) (t := 58) (h := ?_); intro gb hg w1 hbox hb; have BK := Aside0.mk hbox; have GW := gw_ HB hg; replace HB := bs_ HB hb; clear hb hbox hg) | ((with_reducible refine gate_dst (N := 3) rfl ?_); refine be_ (N := 3) (cs := #[.bool false]) (t := 4) (h := ?_); intro gc hg w2 hbox hb; have BC := Aside0.mk hbox; have GC := gw_ HB hg; have NE := ne_ BK hg; have EN := en_ BK hg; replace BK := bb_ BK hb; replace HB := bs_ HB hb; clear hb hbox hg; have hnb := NE.out; have hnc := EN.out; obtain ⟨hk0, hk1, hk2, hk3⟩ := bc2_ BK; obtain ⟨hc0, hc1⟩ := bc1_ BC))
 refine (fall_each_r gc a0_0 l0_1 A0_1 c0_1 _ (RInv w gc _ (.cells #[.int .i64 a0_0, .slice A0_1 l0_1.length c0_1] 58 (0, 0)) a0_0 l0_1) HC.out HLM.out ?h0 (fun j w' h => h.2.1) (fun j w' h => Kd.C_below HR.out h.2.2.1) (fun w' h => (fall_right1 _ _ _ _ _ h.1).mono ?hs0) (fun k w' hk h => (fall_right1 _ _ _ _ _ h.1).mono ?hs)).mono ?_
 case h0 => exact ⟨by simpa using blk_alloc (blk_set BC.out 0 (.bool true)) _, heap_alloc_new _ _, (below_set HB.out GC.out).alloc (below_set HB.out GC.out).size _, GC.out, by have := blk_lt BC.out; simp; omega⟩
 case hs0 => (rintro e w'' ⟨rfl, rfl⟩; exact ⟨rfl, h.step rfl⟩)
 case hs => (rintro e w'' ⟨rfl, rfl⟩; exact ⟨rfl, h.step (by simpa using rd_some hk)⟩)
 rintro e w5 ⟨rfl, hi⟩
 have HI := Aside0.mk hi
 clear hi
 obtain ⟨hd0, hd1⟩ := bc1_ (Aside0.mk HI.out.1)
 go_wp2
 go_ret
 exact ⟨by simp, HI.out.2.2.1⟩

/-! ### fall_Count: function 54, by hand (fall.Count.lean) -/
def cnt1 (a n : Int) : Int := mn (a * (n + 1)) 1073741824
def cntAll (l : List Int) : Int := l.foldl cnt1 1
theorem cnt1_le (a n : Int) (ha : 0 ≤ a ∧ a ≤ 1073741824) (hn : okn n = true) : 0 ≤ cnt1 a n ∧ cnt1 a n ≤ 1073741824 ∧ 0 ≤ a * (n + 1) ∧ a * (n + 1) ≤ 1152921505680588800 := by
 simp only [okn, Bool.and_eq_true, decide_eq_true_eq] at hn
 have h1 : 0 ≤ a * (n + 1) := Int.mul_nonneg ha.1 (by omega)
 have h2 : a * (n + 1) ≤ 1073741824 * (n + 1) := Int.mul_le_mul_of_nonneg_right ha.2 (by omega)
 unfold cnt1 mn
 refine ⟨?_, ?_, h1, by omega⟩ <;> split <;> omega
theorem cntAll_le : ∀ (l : List Int) (a : Int), (0 ≤ a ∧ a ≤ 1073741824) → (∀ x ∈ l, okn x = true) → 0 ≤ l.foldl cnt1 a ∧ l.foldl cnt1 a ≤ 1073741824
 | [], a, h, _ => h
 | n :: l, a, h, hl => by
  have := cnt1_le a n h (hl n (by simp))
  exact cntAll_le l _ ⟨this.1, this.2.1⟩ (fun x hx => hl x (by simp [hx]))
set_option maxHeartbeats 1000000 in
set_option maxRecDepth 100000 in
theorem fall_count1 (i n a : Int) (C : Nat) (w : World) (h : w.heap[C]? = some (.cells #[.int .i64 a] 3 (0, 0))) (ha : 0 ≤ a ∧ a ≤ 1073741824) (hn : okn n = true) :
  Calls Try.prog 78 #[.int .i64 i, .int .i64 n, .pointer (some ⟨C, 0, none⟩)] w fun e w' => e = .returned (.tuple #[]) ∧ w' = w.setCell ⟨C, 0, none⟩ (.int .i64 (cnt1 a n)) := by
 have hc := cell_of_one h
 have hf := free_of_one h
 have hb := (cnt1_le a n ha hn).2.2
 simp only [okn, Bool.and_eq_true, decide_eq_true_eq] at hn
 have e1 : wrap64 (n + 1) = n + 1 := by unfold wrap64; omega
 have e2 : wrap64 (a * (n + 1)) = a * (n + 1) := by
  generalize a * (n + 1) = m at hb
  unfold wrap64; omega
 have E1 := Aside0.mk e1
 have E2 := Aside0.mk e2
 clear h hb e1 e2 ha hn
 go_enter Try.func78, Try.ntmps78
 go_wp2
 all_goals (first | go_end0 | ((try simp only [Exit.inBlock, Exit.then]); refine bodyPost_ret (results_none rfl _ _ _) rfl ?_))
 all_goals refine ⟨rfl, ?_⟩
 ·have h := (by assumption : 1073741824 < wrap64 (a * wrap64 (n + 1)))
  rw [E1.out, E2.out] at h
  unfold cnt1 mn
  rw [if_pos h]
 ·have h := (by assumption : wrap64 (a * wrap64 (n + 1)) ≤ 1073741824)
  rw [E1.out, E2.out] at h ⊢
  unfold cnt1 mn
  rw [if_neg (by omega)]
set_option maxHeartbeats 2000000 in
set_option maxRecDepth 100000 in
/-- each, with the closure of Count. -/
theorem fall_each_c (C : Nat) (d : Int) (l : List Int) (A : Option Addr) (c : Nat) (w : World) (I : Nat → World → Prop) (hlc : l.length ≤ c) (hlm : l.length ≤ 17592186044416)
  (h0 : I 0 (w.alloc (.cells #[.int .i64 d, .slice A l.length c] 58 (0, 0))))
  (hbox : ∀ j w', I j w' → w'.heap[w.heap.size]? = some (.cells #[.int .i64 d, .slice A l.length c] 58 (0, 0)))
  (hl : ∀ j w', I j w' → Kd.C (Kd.int .i64) w' A l.length l)
  (hs0 : ∀ w', I 0 w' → Calls Try.prog 78 #[.int .i64 (-1), .int .i64 d, .pointer (some ⟨C, 0, none⟩)] w' fun e w'' => e = .returned (.tuple #[]) ∧ I 1 w'')
  (hs : ∀ (k : Nat) w', k < l.length → I (k + 1) w' → Calls Try.prog 78 #[.int .i64 k, .int .i64 (rd l k), .pointer (some ⟨C, 0, none⟩)] w' fun e w'' => e = .returned (.tuple #[]) ∧ I (k + 2) w'') :
  Calls Try.prog 77 #[.agg #[.int .i64 d, .slice A l.length c], .func (.func 78) #[] #[.pointer (some ⟨C, 0, none⟩)]] w fun e w' => e = .returned (.tuple #[]) ∧ I (l.length + 1) w' := by
 have H0 := Aside0.mk h0
 have HBOX := Aside0.mk hbox
 have HL := Aside0.mk hl
 have HS0 := Aside0.mk hs0
 have HS := Aside0.mk hs
 clear h0 hbox hl hs0 hs
 have hlm' : (l.length : Int) ≤ 17592186044416 := by omega
 go_enter Try.func77, Try.ntmps77
 go_wp2_with (go_at_call 78; (with_reducible refine (HS0.out _ H0.out).mono ?_); rintro e w1 ⟨rfl, h1⟩; have HI := Aside0.mk h1; clear h1; obtain ⟨hb0, hb1, hb2, hb3⟩ := bc2_ (Aside0.mk (HBOX.out _ _ HI.out)))
 go_loopw [13] (fun i wr => ∃ k : Nat, k ≤ l.length ∧ i = .int .i64 k ∧ Aside0 (I (k + 1) wr)) (fun i _ => l.length - (intOf i).toNat)
 case atStart => exact ⟨0, Nat.zero_le _, rfl, HI⟩
 case round =>
  clear hb0 hb1 hb2 hb3
  obtain ⟨k, hk, rfl, HJ⟩ := hrel
  by_cases hlt : k < l.length
  ·have hltI : (k : Int) < (l.length : Int) := by omega
   have hk0 : (0 : Int) ≤ (k : Int) := by omega
   obtain ⟨ad, e0, hx⟩ := Kd.at_int (HL.out _ _ HJ.out) (k : Int) hk0 hltI
   rw [Int.toNat_natCast] at hx
   cases e0
   go_wp2_with (go_at_call 78; (with_reducible refine (HS.out k _ hlt HJ.out).mono ?_); rintro e w2 ⟨rfl, h2⟩; have HI2 := Aside0.mk h2; clear h2)
   go_roundw
   case rel => exact ⟨k + 1, by omega, by go_num, HI2⟩
   case measure => simp [intOf]; omega
  ·obtain rfl : k = l.length := by omega
   go_wp2
   first | go_end0 | ((try simp only [Exit.inBlock, Exit.then]); refine bodyPost_ret (results_none rfl _ _ _) rfl ?_)
   exact ⟨rfl, HJ.out⟩
def CInv (W0 : World) (C B : Nat) (bx : Obj) (d : Int) (l : List Int) (j : Nat) (w : World) : Prop :=
 w.heap[C]? = some (.cells #[.int .i64 (cntAll ((d :: l).take j))] 3 (0, 0)) ∧ w.heap[B]? = some bx ∧ Below W0.heap.size W0 w ∧ W0.heap.size ≤ C ∧ B ≠ C
theorem CInv.step {W0 : World} {C B : Nat} {cs : Array Value} {t : TypeId} {d : Int} {l : List Int} {j : Nat} {w : World} {x : Int} (h : CInv W0 C B (.cells cs t (0, 0)) d l j w) (hx : (d :: l)[j]? = some x) : CInv W0 C B (.cells cs t (0, 0)) d l (j + 1) (w.setCell ⟨C, 0, none⟩ (.int .i64 (cnt1 (cntAll ((d :: l).take j)) x))) := by
 obtain ⟨h1, h2, h3, h4, h5⟩ := h
 have e : cntAll ((d :: l).take (j + 1)) = cnt1 (cntAll ((d :: l).take j)) x := by
  rw [List.take_add_one, hx]
  simp [cntAll, List.foldl_append]
 refine ⟨?_, blk_far h2 h5 _, below_set h3 h4, h4, h5⟩
 rw [e]
 exact one_setCell h1
def fall_Count.f (a0_0 : Int) (l0_1 : List Int) : Option Int := (fall_right.f a0_0 l0_1).bind fun b => if b = true then some (cntAll (a0_0 :: l0_1)) else some 0
theorem okn_all {d : Int} {l : List Int} (h : (d :: l).all okn = true) : ∀ x ∈ d :: l, okn x = true := fun x hx => List.all_eq_true.1 h x hx
theorem cntAll_take {d : Int} {l : List Int} (h : (d :: l).all okn = true) (j : Nat) : 0 ≤ cntAll ((d :: l).take j) ∧ cntAll ((d :: l).take j) ≤ 1073741824 :=
 cntAll_le _ 1 (by omega) (fun x hx => okn_all h x (List.mem_of_mem_take hx))
theorem fall_right.some_ {d : Int} {l : List Int} {b : Bool} (h : fall_right.f d l = some b) : l.length ≤ 17592186044416 ∧ b = (d :: l).all okn := by
 unfold fall_right.f at h
 by_cases g : l.length ≤ 17592186044416
 ·rw [if_pos g] at h; exact ⟨g, (Option.some.inj h).symm⟩
 ·rw [if_neg g] at h; exact absurd h (by simp)
set_option maxHeartbeats 4000000 in
set_option maxRecDepth 100000 in
theorem fall_Count.calls (a0_0 : Int) (A0_1 : Option Addr) (c0_1 : Nat) (l0_1 : List Int) (r : Int) (w : World) (hr0_1 : Kd.C (Kd.int .i64) w A0_1 l0_1.length l0_1) (hc0_1 : l0_1.length ≤ c0_1) (h : fall_Count.f a0_0 l0_1 = some r) :
  Calls Try.prog 54 #[.agg #[.int .i64 a0_0, .slice A0_1 l0_1.length c0_1]] w fun e w' => e = .returned (.int .i64 r) ∧ Below w.heap.size w w' := by
 have HR := Aside0.mk hr0_1
 have HC := Aside0.mk hc0_1
 clear hr0_1 hc0_1
 have HB := Aside0.mk (Below.refl w.heap.size w)
 obtain ⟨b, hb, H⟩ := Option.bind_eq_some_iff.mp h
 clear h
 have A1 := Aside0.mk hb
 clear hb
 cases b with
 | false =>
  rw [if_neg (by decide)] at H
  obtain rfl := Option.some.inj H
  clear H
  go_enter Try.func54, Try.ntmps54
  go_wp2_with (first | ((with_reducible refine gate_dst (N := 1) rfl ?_); refine be_ (N := 1) (cs := #[.int .i64 a0_0, .slice A0_1 l0_1.length c0_1]) (t := 58) (h := ?_); intro gb hg w1 hbox hb; have BK := Aside0.mk hbox; have GW := gw_ HB hg; replace HB := bs_ HB hb; clear hb hbox hg; obtain ⟨hk0, hk1, hk2, hk3⟩ := bc2_ BK) | ((with_reducible refine gate_callee (f := 70) rfl ?_); refine ge_ (some 5) rfl rfl Try.func70 (by kernel_rfl) rfl #[.agg #[.int .i64 a0_0, .slice A0_1 l0_1.length c0_1]] rfl (h := ?_); (with_reducible refine (fall_right.calls a0_0 _ _ l0_1 false _ ?side1 ?side2 A1.out).mono ?_); (case side1 => exact cw_ (Kd.C_below HR.out HB.out)); (case side2 => exact HC.out); rintro e w2 ⟨rfl, hb⟩; refine ⟨_, rfl, ?_⟩; replace BK := bb_ BK hb; replace HB := bs_ HB hb; clear hb))
  go_ret
  exact ⟨er_, hb_ HB⟩
 | true =>
  rw [if_pos rfl] at H
  obtain rfl := Option.some.inj H
  clear H
  have hall := fall_right.some_ A1.out
  have HLM := Aside0.mk hall.1
  have HA := Aside0.mk hall.2.symm
  clear hall
  go_enter Try.func54, Try.ntmps54
  go_wp2_with (first | ((with_reducible refine gate_dst (N := 1) rfl ?_); refine be_ (N := 1) (cs := #[.int .i64 a0_0, .slice A0_1 l0_1.length c0_1]) (t := 58) (h := ?_); intro gb hg w1 hbox hb; have BK := Aside0.mk hbox; have GW := gw_ HB hg; replace HB := bs_ HB hb; clear hb hbox hg; obtain ⟨hk0, hk1, hk2, hk3⟩ := bc2_ BK) | ((with_reducible refine gate_callee (f := 70) rfl ?_); refine ge_ (some 5) rfl rfl Try.func70 (by kernel_rfl) rfl #[.agg #[.int .i64 a0_0, .slice A0_1 l0_1.length c0_1]] rfl (h := ?_); (with_reducible refine (fall_right.calls a0_0 _ _ l0_1 true _ ?side1 ?side2 A1.out).mono ?_); (case side1 => exact cw_ (Kd.C_below HR.out HB.out)); (case side2 => exact HC.out); rintro e w2 ⟨rfl, hb⟩; refine ⟨_, rfl, ?_⟩; replace BK := bb_ BK hb; replace HB := bs_ HB hb; clear hb hk0 hk1 hk2 hk3) | ((with_reducible refine gate_dst (N := 3) rfl ?_); refine be_ (N := 3) (cs := #[.int .i64 0]) (t := 3) (h := ?_); intro gc hg w2 hbox hb; have BC := Aside0.mk hbox; have GC := gw_ HB hg; have NE := ne_ BK hg; have EN := en_ BK hg; replace BK := bb_ BK hb; replace HB := bs_ HB hb; clear hb hbox hg; have hnb := NE.out; have hnc := EN.out; obtain ⟨hk0, hk1, hk2, hk3⟩ := bc2_ BK; obtain ⟨hc0, hc1⟩ := bc1_ BC))
  refine (fall_each_c gc a0_0 l0_1 A0_1 c0_1 _ (CInv w gc _ (.cells #[.int .i64 a0_0, .slice A0_1 l0_1.length c0_1] 58 (0, 0)) a0_0 l0_1) HC.out HLM.out ?h0 (fun j w' h => h.2.1) (fun j w' h => Kd.C_below HR.out h.2.2.1) (fun w' h => (fall_count1 _ _ _ _ _ h.1 (cntAll_take HA.out _) (okn_all HA.out _ (by simp))).mono ?hs0) (fun k w' hk h => (fall_count1 _ _ _ _ _ h.1 (cntAll_take HA.out _) (okn_all HA.out _ (List.mem_cons_of_mem _ (List.mem_of_getElem? (rd_some hk))))).mono ?hs)).mono ?_
  case h0 => exact ⟨by simpa [cntAll] using blk_alloc (blk_set BC.out 0 (.int .i64 1)) _, heap_alloc_new _ _, (below_set HB.out GC.out).alloc (below_set HB.out GC.out).size _, GC.out, by have := blk_lt BC.out; simp; omega⟩
  case hs0 => (rintro e w'' ⟨rfl, rfl⟩; exact ⟨rfl, h.step rfl⟩)
  case hs => (rintro e w'' ⟨rfl, rfl⟩; exact ⟨rfl, h.step (by simpa using rd_some hk)⟩)
  rintro e w5 ⟨rfl, hi⟩
  have HI := Aside0.mk hi
  clear hi
  obtain ⟨hd0, hd1⟩ := bc1_ (Aside0.mk HI.out.1)
  go_wp2
  go_ret
  exact ⟨by simp, HI.out.2.2.1⟩

/-! ### fall_round: function 73 -/
def fall_round.f (a0 : Int) (a1 : Int) : Option (Int) := if a1 = 0 then (none) else (if (Int.tmod a0 a1) < 0 then (some (wrap64 ((Int.tmod a0 a1) + a1))) else (some (Int.tmod a0 a1)))
set_option maxHeartbeats 8000000 in
set_option maxRecDepth 100000 in
theorem fall_round.calls (a0 : Int) (a1 : Int) (r : Int) (w : World) (h : fall_round.f a0 a1 = some r) :
  Calls Try.prog 73 #[.int .i64 a0, .int .i64 a1] w fun e w' => e = .returned (.int .i64 r) ∧ Drawn0 w w' := by
 have H : (if a1 = 0 then (none) else (if (Int.tmod a0 a1) < 0 then (some (wrap64 ((Int.tmod a0 a1) + a1))) else (some (Int.tmod a0 a1)))) = some r := h
 clear h
 by_cases c3 : a1 = 0
 ·rw [if_pos c3] at H
  exact absurd H (by simp)
 ·rw [if_neg c3] at H
  have c3b0 : (a1 == 0) = false := beq_eq_false_iff_ne.mpr c3
  have c3b1 : (a1 != 0) = true := bne_iff_ne.mpr c3
  by_cases c4 : (Int.tmod a0 a1) < 0
  ·rw [if_pos c4] at H
   have c4b0 : decide ((Int.tmod a0 a1) < 0) = true := decide_eq_true c4
   clear c4
   obtain rfl := Option.some.inj H
   go_enter Try.func73, Try.ntmps73
   go_wp2
   go_ret
   exact ⟨by first | rfl | (simp; done) | (simp [*]; done), by repeat (first | exact Drawn0.refl _ | apply Drawn0.step)⟩
  ·rw [if_neg c4] at H
   have c4b0 : decide ((Int.tmod a0 a1) < 0) = false := decide_eq_false c4
   clear c4
   obtain rfl := Option.some.inj H
   go_enter Try.func73, Try.ntmps73
   go_wp2
   go_ret
   exact ⟨by first | rfl | (simp; done) | (simp [*]; done), by repeat (first | exact Drawn0.refl _ | apply Drawn0.step)⟩

/-! ### fall_Round: function 52, by hand (fall.Round.lean) -/
set_option maxHeartbeats 2000000 in
set_option maxRecDepth 100000 in
/-- each, with the closure of build. -/
theorem fall_each_b (C D : Nat) (d : Int) (l : List Int) (A : Option Addr) (c : Nat) (w : World) (I : Nat → World → Prop) (hlc : l.length ≤ c) (hlm : l.length ≤ 17592186044416)
  (h0 : I 0 (w.alloc (.cells #[.int .i64 d, .slice A l.length c] 58 (0, 0))))
  (hbox : ∀ j w', I j w' → w'.heap[w.heap.size]? = some (.cells #[.int .i64 d, .slice A l.length c] 58 (0, 0)))
  (hl : ∀ j w', I j w' → Kd.C (Kd.int .i64) w' A l.length l)
  (hs0 : ∀ w', I 0 w' → Calls Try.prog 84 #[.int .i64 (-1), .int .i64 d, .pointer (some ⟨C, 0, none⟩), .pointer (some ⟨D, 0, none⟩)] w' fun e w'' => e = .returned (.tuple #[]) ∧ I 1 w'')
  (hs : ∀ (k : Nat) w', k < l.length → I (k + 1) w' → Calls Try.prog 84 #[.int .i64 k, .int .i64 (rd l k), .pointer (some ⟨C, 0, none⟩), .pointer (some ⟨D, 0, none⟩)] w' fun e w'' => e = .returned (.tuple #[]) ∧ I (k + 2) w'') :
  Calls Try.prog 77 #[.agg #[.int .i64 d, .slice A l.length c], .func (.func 84) #[] #[.pointer (some ⟨C, 0, none⟩), .pointer (some ⟨D, 0, none⟩)]] w fun e w' => e = .returned (.tuple #[]) ∧ I (l.length + 1) w' := by
 have H0 := Aside0.mk h0
 have HBOX := Aside0.mk hbox
 have HL := Aside0.mk hl
 have HS0 := Aside0.mk hs0
 have HS := Aside0.mk hs
 clear h0 hbox hl hs0 hs
 have hlm' : (l.length : Int) ≤ 17592186044416 := by omega
 go_enter Try.func77, Try.ntmps77
 go_wp2_with (go_at_call 84; (with_reducible refine (HS0.out _ H0.out).mono ?_); rintro e w1 ⟨rfl, h1⟩; have HI := Aside0.mk h1; clear h1; obtain ⟨hb0, hb1, hb2, hb3⟩ := bc2_ (Aside0.mk (HBOX.out _ _ HI.out)))
 go_loopw [13] (fun i wr => ∃ k : Nat, k ≤ l.length ∧ i = .int .i64 k ∧ Aside0 (I (k + 1) wr)) (fun i _ => l.length - (intOf i).toNat)
 case atStart => exact ⟨0, Nat.zero_le _, rfl, HI⟩
 case round =>
  clear hb0 hb1 hb2 hb3
  obtain ⟨k, hk, rfl, HJ⟩ := hrel
  by_cases hlt : k < l.length
  ·have hltI : (k : Int) < (l.length : Int) := by omega
   have hk0 : (0 : Int) ≤ (k : Int) := by omega
   obtain ⟨ad, e0, hx⟩ := Kd.at_int (HL.out _ _ HJ.out) (k : Int) hk0 hltI
   rw [Int.toNat_natCast] at hx
   cases e0
   go_wp2_with (go_at_call 84; (with_reducible refine (HS.out k _ hlt HJ.out).mono ?_); rintro e w2 ⟨rfl, h2⟩; have HI2 := Aside0.mk h2; clear h2)
   go_roundw
   case rel => exact ⟨k + 1, by omega, by go_num, HI2⟩
   case measure => simp [intOf]; omega
  ·obtain rfl : k = l.length := by omega
   go_wp2
   first | go_end0 | ((try simp only [Exit.inBlock, Exit.then]); refine bodyPost_ret (results_none rfl _ _ _) rfl ?_)
   exact ⟨rfl, HJ.out⟩

set_option maxHeartbeats 4000000 in
set_option maxRecDepth 100000 in
theorem fall_build1_b (i n x : Int) (F O X B G E : Nat) (dir : Int) (v : Value) (xs : List Int) (XO XO' BO GO : Obj) (W0 w : World)
  (hF : w.heap[F]? = some (.cells #[.func (.func 72) #[] #[.pointer (some ⟨X, 0, none⟩)]] 84 (0, 0))) (hO : w.heap[O]? = some (.cells #[.int .i64 dir, v] 58 (0, 0))) (hX : w.heap[X]? = some XO) (hBo : w.heap[B]? = some BO) (hG : w.heap[G]? = some GO)
  (hR : Kd.R (Kd.int .i64) 3 w W0.heap.size (fun k => k ≠ F ∧ k ≠ O ∧ k ≠ X ∧ k ≠ B ∧ k ≠ G ∧ E ≤ k) v xs) (hB : Below W0.heap.size W0 w) (hl : xs.length ≤ 1000000) (hE : E ≤ O ∧ E ≤ w.heap.size) (hne : (F ≠ O ∧ F ≠ X ∧ O ≠ X) ∧ (B ≠ O ∧ B ≠ X) ∧ (G ≠ O ∧ G ≠ X) ∧ W0.heap.size ≤ O)
  (hcall : Calls Try.prog 72 #[.int .i64 i, .int .i64 (wrap64 (n + 1)), .pointer (some ⟨X, 0, none⟩)] w fun e w' => e = .returned (.int .i64 x) ∧ Below W0.heap.size W0 w' ∧ KeepBut w w' X none ∧ w'.heap[X]? = some XO') :
  Calls Try.prog 84 #[.int .i64 i, .int .i64 n, .pointer (some ⟨F, 0, none⟩), .pointer (some ⟨O, 0, none⟩)] w fun e w' => e = .returned (.tuple #[]) ∧ Below W0.heap.size W0 w' ∧
   w'.heap[F]? = some (.cells #[.func (.func 72) #[] #[.pointer (some ⟨X, 0, none⟩)]] 84 (0, 0)) ∧ w'.heap[X]? = some XO' ∧ w'.heap[B]? = some BO ∧ w'.heap[G]? = some GO ∧ (∀ k, k < E → k ≠ X → w'.heap[k]? = w.heap[k]?) ∧
   ∃ v', w'.heap[O]? = some (.cells #[.int .i64 (if i < 0 then x else dir), v'] 58 (0, 0)) ∧ Kd.R (Kd.int .i64) 3 w' W0.heap.size (fun k => k ≠ F ∧ k ≠ O ∧ k ≠ X ∧ k ≠ B ∧ k ≠ G ∧ E ≤ k) v' (if i < 0 then xs else xs ++ [x]) := by
 obtain ⟨hf0, hf1⟩ := bc1_ (Aside0.mk hF)
 have HF := Aside0.mk hF
 have HO := Aside0.mk hO
 have HX := Aside0.mk hX
 have HBo := Aside0.mk hBo
 have HG := Aside0.mk hG
 have HE := Aside0.mk hE
 have HR := Aside0.mk hR
 have HCALL := Aside0.mk hcall
 obtain ⟨⟨n1, n2, n3⟩, ⟨n4, n5⟩, ⟨n7, n8⟩, n6⟩ := hne
 have N1 := Aside0.mk n1
 have N2 := Aside0.mk n2
 have N3 := Aside0.mk n3
 have N4 := Aside0.mk n4
 have N5 := Aside0.mk n5
 have N6 := Aside0.mk n6
 have N7 := Aside0.mk n7
 have N8 := Aside0.mk n8
 have HL := Aside0.mk hl
 clear hF hO hX hBo hG hE hR hB hcall n1 n2 n3 n4 n5 n6 n7 n8 hl
 have keep : ∀ {w' : World} {k : Nat} {o : Obj}, KeepBut w w' X none → w.heap[k]? = some o → k ≠ X → w'.heap[k]? = some o := fun hk h hn => (hk.2 _ (blk_lt h) hn (by simp)).trans h
 have KEEP := Aside0.mk @keep
 clear keep
 by_cases hi : i < 0
 ·rw [if_pos hi, if_pos hi]
  have d0 : decide (i < 0) = true := decide_eq_true hi
  clear hi
  go_enter Try.func84, Try.ntmps84
  go_wp2_with (go_at_call 72; (with_reducible refine HCALL.out.mono ?_); rintro e w1 ⟨rfl, hb, hk, hx⟩; have KO := Aside0.mk (KEEP.out hk HO.out N3.out); have KF := Aside0.mk (KEEP.out hk HF.out N2.out); have KB := Aside0.mk (KEEP.out hk HBo.out N5.out); have KG := Aside0.mk (KEEP.out hk HG.out N8.out); have KR := Aside0.mk (Kd.R_keep HR.out hk (fun k hk => hk.2.2.1)); have HK := Aside0.mk hk; have KX := Aside0.mk hx; have HB := Aside0.mk hb; clear hb hk hx; obtain ⟨o0, o1, o2, o3⟩ := bc2_ KO)
  first | go_end0 | ((try simp only [Exit.inBlock, Exit.then]); refine bodyPost_ret (results_none rfl _ _ _) rfl ?_)
  exact ⟨rfl, below_set HB.out N6.out, blk_far KF.out N1.out _, (by obtain ⟨c, t, fr⟩ := XO'; all_goals exact (Below.heap_setCell _ _ _ X (Ne.symm N3.out)).trans KX.out), (Below.heap_setCell _ _ _ B N4.out).trans KB.out, (Below.heap_setCell _ _ _ G N7.out).trans KG.out, (fun k h1 h2 => (Below.heap_setCell _ _ _ k (by have := HE.out.1; show k ≠ O; omega)).trans (HK.out.2 k (by have := HE.out.2; omega) h2 (by simp))), v, by simpa using blk_set KO.out 0 (.int .i64 x), Kd.R_far KR.out (fun k hk => hk.2.1) _⟩
 ·rw [if_neg hi, if_neg hi]
  have d0 : decide (i < 0) = false := decide_eq_false hi
  clear hi
  go_enter Try.func84, Try.ntmps84
  go_wp2_with (first | (go_at_call 72; (with_reducible refine HCALL.out.mono ?_); rintro e w1 ⟨rfl, hb, hk, hx⟩; have KO := Aside0.mk (KEEP.out hk HO.out N3.out); have KF := Aside0.mk (KEEP.out hk HF.out N2.out); have KB := Aside0.mk (KEEP.out hk HBo.out N5.out); have KG := Aside0.mk (KEEP.out hk HG.out N8.out); have KR := Aside0.mk (Kd.R_keep HR.out hk (fun k hk => hk.2.2.1)); have HK := Aside0.mk hk; have KX := Aside0.mk hx; have HB := Aside0.mk hb; clear hb hk hx; obtain ⟨o0, o1, o2, o3⟩ := bc2_ KO) | ((with_reducible refine gate_builtin (b := .append) (xs := #[.tmp 17, .tmp 19]) rfl ?_); at_builtin; refine Kd.R_append (Kd.int .i64) W0.heap.size rfl (.tmp 17) (.tmp 19) 22 3 (.int .i64 0) 8 rfl Try.underlying22 (by kernel_rfl) rfl (by decide) (by omega) v xs x [.int .i64 x] (fun k => k ≠ F ∧ k ≠ O ∧ k ≠ X ∧ k ≠ B ∧ k ≠ G ∧ E ≤ k) (fun _ => False) rfl rfl ?aP (fun _ hk => hk.elim) ?aF ?aO HB.out ?aS ?aL ?_; (case aP => exact rfl); (case aF => exact (fun k hk => by have h1 := blk_lt KF.out; have h2 := blk_lt KO.out; have h3 := blk_lt KX.out; have h4 := blk_lt KB.out; have h5 := blk_lt KG.out; have h6 := HE.out.2; have h7 := HK.out.1; omega)); (case aO => exact KR.out); (case aS => exact HB.out.size); (case aL => have := HL.out; omega); intro v2 w2 ho hb hg hat; obtain ⟨A2, c2, rfl⟩ := Kd.R_slice ho; have P1 := KR.out.1; have JO := Aside0.mk (blk_grown KO.out hg (fun e => (P1 _ e.symm).2.1 rfl)); have JF := Aside0.mk (blk_grown KF.out hg (fun e => (P1 _ e.symm).1 rfl)); have JB := Aside0.mk (blk_grown KB.out hg (fun e => (P1 _ e.symm).2.2.2.1 rfl)); have JG := Aside0.mk (blk_grown KG.out hg (fun e => (P1 _ e.symm).2.2.2.2.1 rfl)); have JX := Aside0.mk (blk_grown KX.out hg (fun e => (P1 _ e.symm).2.2.1 rfl)); have JK := Aside0.mk (show ∀ k, k < E → k ≠ X → w2.heap[k]? = w.heap[k]? from fun k h1 h2 => (hg.block k (by have := HE.out.2; have := HK.out.1; omega) (fun e => by have := (P1 _ e.symm).2.2.2.2.2; omega)).trans (HK.out.2 k (by have := HE.out.2; omega) h2 (by simp))); have JR := Aside0.mk ho; have JBW := Aside0.mk hb; clear P1 ho hb hg hat o0 o1 o2 o3; obtain ⟨o0, o1, o2, o3⟩ := bc2_ JO))
  first | go_end0 | ((try simp only [Exit.inBlock, Exit.then]); refine bodyPost_ret (results_none rfl _ _ _) rfl ?_)
  exact ⟨rfl, below_set JBW.out N6.out, blk_far JF.out N1.out _, (Below.heap_setCell _ _ _ X (Ne.symm N3.out)).trans JX.out, (Below.heap_setCell _ _ _ B N4.out).trans JB.out, (Below.heap_setCell _ _ _ G N7.out).trans JG.out, (fun k h1 h2 => (Below.heap_setCell _ _ _ k (by have := HE.out.1; show k ≠ O; omega)).trans (JK.out k h1 h2)), _, by simpa using blk_set JO.out 1 (.slice A2 (xs ++ [x]).length c2), Kd.R_far JR.out (fun k hk => hk.2.1) _⟩
/-- What stands when so many numbers have been gone through. -/
def BInv_b (W0 we : World) (F O X B G : Nat) (BO GO : Obj) (x : Nat → Int) (XO : Nat → Obj) (j : Nat) (w : World) : Prop :=
 ((∀ k, k < we.heap.size → k ≠ X → w.heap[k]? = we.heap[k]?) ∧ we.heap.size ≤ O ∧ we.heap.size ≤ w.heap.size) ∧ (w.heap[F]? = some (.cells #[.func (.func 72) #[] #[.pointer (some ⟨X, 0, none⟩)]] 84 (0, 0)) ∧ w.heap[X]? = some (XO j) ∧ w.heap[B]? = some BO ∧ w.heap[G]? = some GO ∧ Below W0.heap.size W0 w) ∧ ((F ≠ O ∧ F ≠ X ∧ O ≠ X) ∧ (B ≠ O ∧ B ≠ X) ∧ (G ≠ O ∧ G ≠ X) ∧ W0.heap.size ≤ O) ∧
 ∃ v, w.heap[O]? = some (.cells #[.int .i64 (if j = 0 then 0 else x 0), v] 58 (0, 0)) ∧ Kd.R (Kd.int .i64) 3 w W0.heap.size (fun k => k ≠ F ∧ k ≠ O ∧ k ≠ X ∧ k ≠ B ∧ k ≠ G ∧ we.heap.size ≤ k) v ((List.range (j - 1)).map (fun k => x (k + 1)))
set_option maxHeartbeats 4000000 in
set_option maxRecDepth 100000 in
theorem fall_build_b (X : Nat) (d : Int) (l : List Int) (A : Option Addr) (c : Nat) (W0 w : World) (x : Nat → Int) (XO : Nat → Obj) (hlc : l.length ≤ c) (hlm : l.length ≤ 1000000)
  (hl : Kd.C (Kd.int .i64) W0 A l.length l) (hB : Below W0.heap.size W0 w) (hX : w.heap[X]? = some (XO 0))
  (hs0 : ∀ w', w'.heap[X]? = some (XO 0) → Below W0.heap.size W0 w' → Calls Try.prog 72 #[.int .i64 (-1), .int .i64 (wrap64 (d + 1)), .pointer (some ⟨X, 0, none⟩)] w' fun e w'' => e = .returned (.int .i64 (x 0)) ∧ Below W0.heap.size W0 w'' ∧ KeepBut w' w'' X none ∧ w''.heap[X]? = some (XO 1))
  (hs : ∀ (k : Nat) w', k < l.length → w'.heap[X]? = some (XO (k + 1)) → Below W0.heap.size W0 w' → Calls Try.prog 72 #[.int .i64 k, .int .i64 (wrap64 (rd l k + 1)), .pointer (some ⟨X, 0, none⟩)] w' fun e w'' => e = .returned (.int .i64 (x (k + 1))) ∧ Below W0.heap.size W0 w'' ∧ KeepBut w' w'' X none ∧ w''.heap[X]? = some (XO (k + 2))) :
  Calls Try.prog 71 #[.agg #[.int .i64 d, .slice A l.length c], .func (.func 72) #[] #[.pointer (some ⟨X, 0, none⟩)]] w fun e w' => ∃ v, e = .returned (.agg #[.int .i64 (x 0), v]) ∧ Kd.R (Kd.int .i64) 3 w' W0.heap.size (fun k => w.heap.size ≤ k) v ((List.range l.length).map (fun k => x (k + 1))) ∧ Below W0.heap.size W0 w' ∧ ∀ k, k < w.heap.size → k ≠ X → w'.heap[k]? = w.heap[k]? := by
 have hu := Try.underlying58
 have HC := Aside0.mk hlc
 have HLM := Aside0.mk hlm
 have HL := Aside0.mk hl
 have HX := Aside0.mk hX
 have HS0 := Aside0.mk hs0
 have HS := Aside0.mk hs
 have HB := Aside0.mk hB
 have HWW := Aside0.mk (Below.refl w.heap.size w)
 have HXL := Aside0.mk (blk_lt hX)
 clear hlc hlm hl hX hs0 hs hB
 go_enter Try.func71, Try.ntmps71
 go_wp2_with (first | ((with_reducible refine gate_dst (N := 2) rfl ?_); refine be_ (N := 2) (cs := #[.int .i64 d, .slice A l.length c]) (t := 58) (h := ?_); intro gb hg w1 hbox hb; have BK := Aside0.mk hbox; have GK := gw_ HB hg; have NXK := Aside0.mk (show X ≠ gb by have h1 := HXL.out; rw [hg]; exact Nat.ne_of_lt h1); replace HX := Aside0.mk (blk_below HX.out hb); replace HB := bs_ HB hb; replace HWW := bs_ HWW hb; clear hb hbox hg) | ((with_reducible refine gate_dst (N := 3) rfl ?_); refine be_ (N := 3) (cs := #[.func (.func 72) #[] #[.pointer (some ⟨X, 0, none⟩)]]) (t := 84) (h := ?_); intro gf hg w2 hbox hb; have BF := Aside0.mk hbox; have NXF := Aside0.mk (show X ≠ gf by have h1 := blk_lt HX.out; rw [hg]; exact Nat.ne_of_lt h1); have NKF := ne_ BK hg; replace HX := Aside0.mk (blk_below HX.out hb); replace BK := bb_ BK hb; replace HB := bs_ HB hb; replace HWW := bs_ HWW hb; clear hb hbox hg) | ((with_reducible refine gate_dst (N := 4) rfl ?_); refine be_ (N := 4) (cs := #[.int .i64 0, .slice none 0 0]) (t := 58) (h := ?_); intro gr hg w3 hbox hb; have BR := Aside0.mk hbox; have GR := gw_ HB hg; have GRE := gw_ HWW hg; have NXR := Aside0.mk (show gr ≠ X by have h1 := blk_lt HX.out; rw [hg]; exact Nat.ne_of_gt h1); replace HX := Aside0.mk (blk_below HX.out hb); replace BK := bb_ BK hb; replace BF := bb_ BF hb; replace HB := bs_ HB hb; replace HWW := bs_ HWW hb; clear hb hbox hg) | ((with_reducible refine gate_dst (N := 5) rfl ?_); refine be_ (N := 5) (cs := #[.int .i64 0, .slice none 0 0]) (t := 58) (h := ?_); intro go_ hg w4 hbox hb; have BO := Aside0.mk hbox; have GO := gw_ HB hg; have GOE := gw_ HWW hg; have NXO := Aside0.mk (show X ≠ go_ by have h1 := blk_lt HX.out; rw [hg]; exact Nat.ne_of_lt h1); have NFO := ne_ BF hg; have NRO := ne_ BR hg; have NKO := ne_ BK hg; replace HX := Aside0.mk (blk_below HX.out hb); replace BK := bb_ BK hb; replace BF := bb_ BF hb; replace BR := bb_ BR hb; replace HB := bs_ HB hb; replace HWW := bs_ HWW hb; clear hb hbox hg; obtain ⟨hk0, hk1, hk2, hk3⟩ := bc2_ BK))
 refine (fall_each_b gf go_ d l A c _ (fun j w' => BInv_b W0 w gf go_ X w4.heap.size gr (.cells #[.int .i64 d, .slice A l.length c] 58 (0, 0)) (.cells #[.int .i64 0, .slice none 0 0] 58 (0, 0)) x XO j w') HC.out (Nat.le_trans HLM.out (by decide)) ?h0 (fun j w' h => h.2.1.2.2.1) (fun j w' h => Kd.C_below HL.out h.2.1.2.2.2.2) ?hs0 ?hs).mono ?_
 case h0 =>
  have K := (Below.refl w4.heap.size w4).alloc (Nat.le_refl _) (.cells #[.int .i64 d, .slice A l.length c] 58 (0, 0))
  exact ⟨⟨fun k h1 h2 => (heap_alloc_old w4 _ (by have := HWW.out.size; omega)).trans (HWW.out.block k h1), GOE.out, by have := HWW.out.size; have := K.size; omega⟩, ⟨blk_below BF.out K, blk_below HX.out K, heap_alloc_new _ _, blk_below BR.out K, below_alloc HB.out _⟩, ⟨⟨NFO.out, Ne.symm NXF.out, Ne.symm NXO.out⟩, ⟨by have := blk_lt BO.out; omega, by have := blk_lt HX.out; omega⟩, ⟨NRO.out, NXR.out⟩, GO.out⟩, _, blk_below BO.out K, Kd.R_nil _ _ _ _ _⟩
 case hs0 =>
  rintro w' ⟨⟨kp, e1, e2⟩, ⟨f, hx, b, g, bl⟩, ne, v, o, r⟩
  refine (fall_build1_b (-1) d (x 0) gf go_ X _ gr w.heap.size _ v _ (XO 0) (XO 1) _ _ W0 w' f o hx b g r bl (by simp) ⟨e1, e2⟩ ne (HS0.out w' hx bl)).mono ?_
  rintro e w'' ⟨rfl, bl', f', x', b', g', kp', v', o', r'⟩
  exact ⟨rfl, ⟨fun k h1 h2 => (kp' k h1 h2).trans (kp k h1 h2), e1, Nat.le_trans e1 (Nat.le_of_lt (blk_lt o'))⟩, ⟨f', x', b', g', bl'⟩, ne, v', by simpa using o', by simpa using r'⟩
 case hs =>
  rintro k w' hk ⟨⟨kp, e1, e2⟩, ⟨f, hx, b, g, bl⟩, ne, v, o, r⟩
  have hlm := HLM.out
  refine (fall_build1_b k (rd l k) (x (k + 1)) gf go_ X _ gr w.heap.size _ v _ (XO (k + 1)) (XO (k + 2)) _ _ W0 w' f o hx b g r bl (by simp; omega) ⟨e1, e2⟩ ne (HS.out k w' hk hx bl)).mono ?_
  rintro e w'' ⟨rfl, bl', f', x', b', g', kp', v', o', r'⟩
  rw [if_neg (by omega)] at o' r'
  refine ⟨rfl, ⟨fun k h1 h2 => (kp' k h1 h2).trans (kp k h1 h2), e1, Nat.le_trans e1 (Nat.le_of_lt (blk_lt o'))⟩, ⟨f', x', b', g', bl'⟩, ne, v', by simpa using o', ?_⟩
  have e3 : (List.range (k + 2 - 1)).map (fun k => x (k + 1)) = (List.range (k + 1 - 1)).map (fun k => x (k + 1)) ++ [x (k + 1)] := by
   rw [show k + 2 - 1 = k + 1 from rfl, show k + 1 - 1 = k from rfl, List.range_succ, List.map_append]; rfl
  rw [e3]
  exact r'
 rintro e w5 ⟨rfl, ⟨kp, e1, e2⟩, ⟨f, hx, b, g, bl⟩, ne, v, o, r⟩
 rw [if_neg (Nat.succ_ne_zero _), ] at o
 obtain ⟨A2, c2, rfl⟩ := Kd.R_slice r
 simp only [show l.length + 1 - 1 = l.length from rfl, List.length_map, List.length_range] at o r
 have PO := Aside0.mk o
 have PG := Aside0.mk g
 have PR := Aside0.mk r
 have PB := Aside0.mk bl
 have PGE := Aside0.mk GR.out
 have PK := Aside0.mk kp
 clear f hx b g bl ne o r kp e1 e2
 have hnb := NRO.out
 have hnc := Ne.symm NRO.out
 obtain ⟨o0, o1, o2, o3⟩ := bc2_ PO
 obtain ⟨g0, g1, g2, g3⟩ := bc2_ PG
 go_wp2
 refine bodyPost_ret (results_cell_row rfl _ _ gr 58 #[.int .i64 (x 0), .slice A2 l.length c2] (0, 0) _ rfl (bp_ PG.out) hu rfl (by kernel_rfl)) rfl ?_
 exact ⟨_, rfl, Kd.R_mono (Kd.R_far (Kd.R_far PR.out (fun k hk => hk.2.2.2.2.1) _) (fun k hk => hk.2.2.2.2.1) _) (fun _ hk => hk.2.2.2.2.2), below_set (below_set PB.out PGE.out) PGE.out, fun k h1 h2 => (Below.heap_setCell _ _ _ k (by have := GRE.out; show k ≠ gr; omega)).trans ((Below.heap_setCell _ _ _ k (by have := GRE.out; show k ≠ gr; omega)).trans (PK.out k h1 h2))⟩
def rnd (n b : Int) : Int := if Int.tmod n b < 0 then Int.tmod n b + b else Int.tmod n b
theorem rnd_is (n b : Int) (hb : 1 ≤ b ∧ b ≤ 1073741825) : fall_round.f n b = some (rnd n b) := by
 unfold fall_round.f rnd
 rw [if_neg (by omega)]
 have h1 := Int.tmod_lt_of_pos n (show 0 < b by omega)
 have h2 := Int.lt_tmod_of_pos n (show 0 < b by omega)
 by_cases g : Int.tmod n b < 0
 ·rw [if_pos g, if_pos g]
  congr 1
  unfold wrap64; omega
 ·rw [if_neg g, if_neg g]
def rndAt (cd : Int) (lc : List Int) (i b : Int) : Int := if i < 0 then rnd cd b else if i < (lc.length : Int) then rnd (rd lc i) b else 0
set_option maxHeartbeats 1000000 in
set_option maxRecDepth 100000 in
theorem fall_round1 (i b cd : Int) (lc : List Int) (Ac : Option Addr) (cc X : Nat) (w : World) (hX : w.heap[X]? = some (.cells #[.int .i64 cd, .slice Ac lc.length cc] 58 (0, 0))) (hc : Kd.C (Kd.int .i64) w Ac lc.length lc) (hb : 1 ≤ b ∧ b ≤ 1073741825) (hm : (lc.length : Int) ≤ 1000000000) :
  Calls Try.prog 72 #[.int .i64 i, .int .i64 b, .pointer (some ⟨X, 0, none⟩)] w fun e w' => e = .returned (.int .i64 (rndAt cd lc i b)) ∧ Below w.heap.size w w' := by
 obtain ⟨x0, x1, x2, x3⟩ := bc2_ (Aside0.mk hX)
 have HC := Aside0.mk hc
 have HBB := Aside0.mk hb
 clear hX hc hb
 unfold rndAt
 by_cases h0 : i < 0
 ·rw [if_pos h0]
  have d0 : decide (i < 0) = true := decide_eq_true h0
  clear h0
  go_enter Try.func72, Try.ntmps72
  go_wp2_with (go_at_call 73; (with_reducible refine (fall_round.calls _ _ _ _ (rnd_is _ _ HBB.out)).mono ?_); rintro e w1 ⟨rfl, hb⟩; have HB := Aside0.mk hb.below; clear hb)
  go_ret
  exact ⟨rfl, HB.out⟩
 ·rw [if_neg h0]
  have d0 : decide (i < 0) = false := decide_eq_false h0
  by_cases h1 : i < (lc.length : Int)
  ·rw [if_pos h1]
   have d1 : decide (i < (lc.length : Int)) = true := decide_eq_true h1
   obtain ⟨ad, e0, hx⟩ := Kd.at_int HC.out i (by omega) h1
   cases e0
   have p0 : (0 : Int) ≤ i := by omega
   have q0 := eq_true h1
   replace p0 := eq_true p0
   clear h0 h1
   go_enter Try.func72, Try.ntmps72
   go_wp2_with (go_at_call 73; (with_reducible refine (fall_round.calls _ _ _ _ (rnd_is _ _ HBB.out)).mono ?_); rintro e w1 ⟨rfl, hb⟩; have HB := Aside0.mk hb.below; clear hb)
   go_ret
   exact ⟨rfl, HB.out⟩
  ·rw [if_neg h1]
   have d1 : decide (i < (lc.length : Int)) = false := decide_eq_false h1
   have HB := Aside0.mk (Below.refl w.heap.size w)
   clear h0 h1
   go_enter Try.func72, Try.ntmps72
   go_wp2
   go_ret
   exact ⟨rfl, HB.out⟩
def fall_Round.f (a0_0 : Int) (l0_1 : List Int) (a1_0 : Int) (l1_1 : List Int) : Option (Int × List Int) := (fall_right.f a0_0 l0_1).bind fun b => if b = true then (if l0_1.length ≤ 1000 ∧ l1_1.length ≤ 1000 then some (rndAt a1_0 l1_1 (-1) (a0_0 + 1), (List.range l0_1.length).map (fun k : Nat => rndAt a1_0 l1_1 (k : Int) (rd l0_1 (k : Int) + 1))) else none) else some (0, [])
def rx (cd : Int) (lc : List Int) (d : Int) (l : List Int) : Nat → Int
 | 0 => rndAt cd lc (-1) (d + 1)
 | k + 1 => rndAt cd lc (k : Int) (rd l (k : Int) + 1)
theorem okn_room {n : Int} (h : okn n = true) : wrap64 (n + 1) = n + 1 ∧ 1 ≤ n + 1 ∧ n + 1 ≤ 1073741825 := by
 simp only [okn, Bool.and_eq_true, decide_eq_true_eq] at h
 refine ⟨?_, by omega, by omega⟩
 unfold wrap64; omega
set_option maxHeartbeats 4000000 in
set_option maxRecDepth 100000 in
theorem fall_Round.calls (a0_0 : Int) (A0_1 : Option Addr) (c0_1 : Nat) (l0_1 : List Int) (a1_0 : Int) (A1_1 : Option Addr) (c1_1 : Nat) (l1_1 : List Int) (r1 : Int) (r2 : List Int) (w : World) (hr0_1 : Kd.C (Kd.int .i64) w A0_1 l0_1.length l0_1) (hc0_1 : l0_1.length ≤ c0_1) (hr1_1 : Kd.C (Kd.int .i64) w A1_1 l1_1.length l1_1) (hc1_1 : l1_1.length ≤ c1_1) (h : fall_Round.f a0_0 l0_1 a1_0 l1_1 = some (r1, r2)) :
  Calls Try.prog 52 #[.agg #[.int .i64 a0_0, .slice A0_1 l0_1.length c0_1], .agg #[.int .i64 a1_0, .slice A1_1 l1_1.length c1_1]] w fun e w' => ∃ v1_ : Value, e = .returned (.agg #[.int .i64 r1, v1_]) ∧ Kd.R (Kd.int .i64) 3 w' w.heap.size (fun _ => True) v1_ r2 ∧ Below w.heap.size w w' := by
 have hu := Try.underlying58
 have HR := Aside0.mk hr0_1
 have HC := Aside0.mk hc0_1
 have HR1 := Aside0.mk hr1_1
 have HC1 := Aside0.mk hc1_1
 clear hr0_1 hc0_1 hr1_1 hc1_1
 have HB := Aside0.mk (Below.refl w.heap.size w)
 obtain ⟨b, hb, H⟩ := Option.bind_eq_some_iff.mp h
 clear h
 have A1 := Aside0.mk hb
 clear hb
 cases b with
 | false =>
  rw [if_neg (by decide)] at H
  simp only [Option.some.injEq, Prod.mk.injEq] at H
  obtain ⟨rfl, rfl⟩ := H
  go_enter Try.func52, Try.ntmps52
  go_wp2_with (first | ((with_reducible refine gate_dst (N := 2) rfl ?_); refine be_ (N := 2) (cs := #[.int .i64 a0_0, .slice A0_1 l0_1.length c0_1]) (t := 58) (h := ?_); intro gb hg w1 hbox hb; have BK := Aside0.mk hbox; replace HB := bs_ HB hb; clear hb hbox hg) | ((with_reducible refine gate_dst (N := 3) rfl ?_); refine be_ (N := 3) (cs := #[.int .i64 a1_0, .slice A1_1 l1_1.length c1_1]) (t := 58) (h := ?_); intro gx hg w2 hbox hb; have BX := Aside0.mk hbox; replace BK := bb_ BK hb; replace HB := bs_ HB hb; clear hb hbox hg) | ((with_reducible refine gate_dst (N := 4) rfl ?_); refine be_ (N := 4) (cs := #[.int .i64 0, .slice none 0 0]) (t := 58) (h := ?_); intro gr hg w3 hbox hb; have BR := Aside0.mk hbox; have GR := gw_ HB hg; replace BK := bb_ BK hb; replace BX := bb_ BX hb; replace HB := bs_ HB hb; clear hb hbox hg; obtain ⟨hk0, hk1, hk2, hk3⟩ := bc2_ BK) | ((with_reducible refine gate_callee (f := 70) rfl ?_); refine ge_ (some 6) rfl rfl Try.func70 (by kernel_rfl) rfl #[.agg #[.int .i64 a0_0, .slice A0_1 l0_1.length c0_1]] rfl (h := ?_); (with_reducible refine (fall_right.calls a0_0 _ _ l0_1 false _ ?side1 ?side2 A1.out).mono ?_); (case side1 => exact cw_ (Kd.C_below HR.out HB.out)); (case side2 => exact HC.out); rintro e w4 ⟨rfl, hb⟩; refine ⟨_, rfl, ?_⟩; replace BK := bb_ BK hb; replace BR := bb_ BR hb; replace HB := bs_ HB hb; clear hb hk0 hk1 hk2 hk3; obtain ⟨hr0, hr1, hr2, hr3⟩ := bc2_ BR))
  refine bodyPost_ret (results_cell_row rfl _ _ gr 58 #[.int .i64 0, .slice none 0 0] (0, 0) _ rfl (bp_ BR.out) hu rfl (by kernel_rfl)) rfl ?_
  exact ⟨_, rfl, Kd.R_nil _ _ _ _ _, below_set (below_set HB.out GR.out) GR.out⟩
 | true =>
  rw [if_pos rfl] at H
  have hall := fall_right.some_ A1.out
  by_cases hm : l0_1.length ≤ 1000 ∧ l1_1.length ≤ 1000
  ·rw [if_pos hm] at H
   simp only [Option.some.injEq, Prod.mk.injEq] at H
   obtain ⟨rfl, rfl⟩ := H
   have HLM := Aside0.mk hm
   have HA := Aside0.mk hall.2.symm
   clear hall hm
   go_enter Try.func52, Try.ntmps52
   go_wp2_with (first | ((with_reducible refine gate_dst (N := 2) rfl ?_); refine be_ (N := 2) (cs := #[.int .i64 a0_0, .slice A0_1 l0_1.length c0_1]) (t := 58) (h := ?_); intro gb hg w1 hbox hb; have BK := Aside0.mk hbox; replace HB := bs_ HB hb; clear hb hbox hg) | ((with_reducible refine gate_dst (N := 3) rfl ?_); refine be_ (N := 3) (cs := #[.int .i64 a1_0, .slice A1_1 l1_1.length c1_1]) (t := 58) (h := ?_); intro gx hg w2 hbox hb; have BX := Aside0.mk hbox; replace BK := bb_ BK hb; replace HB := bs_ HB hb; clear hb hbox hg) | ((with_reducible refine gate_dst (N := 4) rfl ?_); refine be_ (N := 4) (cs := #[.int .i64 0, .slice none 0 0]) (t := 58) (h := ?_); intro gr hg w3 hbox hb; have BR := Aside0.mk hbox; have GR := gw_ HB hg; have NRX := en_ BX hg; replace BK := bb_ BK hb; replace BX := bb_ BX hb; replace HB := bs_ HB hb; clear hb hbox hg; obtain ⟨hk0, hk1, hk2, hk3⟩ := bc2_ BK) | ((with_reducible refine gate_callee (f := 70) rfl ?_); refine ge_ (some 6) rfl rfl Try.func70 (by kernel_rfl) rfl #[.agg #[.int .i64 a0_0, .slice A0_1 l0_1.length c0_1]] rfl (h := ?_); (with_reducible refine (fall_right.calls a0_0 _ _ l0_1 true _ ?side1 ?side2 A1.out).mono ?_); (case side1 => exact cw_ (Kd.C_below HR.out HB.out)); (case side2 => exact HC.out); rintro e w4 ⟨rfl, hb⟩; refine ⟨_, rfl, ?_⟩; replace BK := bb_ BK hb; replace BX := bb_ BX hb; replace BR := bb_ BR hb; replace HB := bs_ HB hb; clear hb hk0 hk1 hk2 hk3; obtain ⟨hk0, hk1, hk2, hk3⟩ := bc2_ BK))
   refine (fall_build_b gx a0_0 l0_1 A0_1 c0_1 w w4 (rx a1_0 l1_1 a0_0 l0_1) (fun _ => .cells #[.int .i64 a1_0, .slice A1_1 l1_1.length c1_1] 58 (0, 0)) HC.out (by have := HLM.out; omega) HR.out HB.out BX.out ?hs0 ?hs).mono ?_
   case hs0 =>
    intro w' hx hb
    have q := okn_room (okn_all HA.out a0_0 (by simp))
    rw [q.1]
    refine (fall_round1 (-1) (a0_0 + 1) a1_0 l1_1 A1_1 c1_1 gx w' hx (Kd.C_below HR1.out hb) q.2 (by have := HLM.out; omega)).mono ?_
    rintro e w'' ⟨rfl, hb'⟩
    exact ⟨rfl, below_step hb hb', KeepBut.of_below hb' _ _, blk_below hx hb'⟩
   case hs =>
    intro k w' hk hx hb
    have q := okn_room (okn_all HA.out (rd l0_1 (k : Int)) (List.mem_cons_of_mem _ (List.mem_of_getElem? (rd_some hk))))
    rw [q.1]
    refine (fall_round1 k (rd l0_1 (k : Int) + 1) a1_0 l1_1 A1_1 c1_1 gx w' hx (Kd.C_below HR1.out hb) q.2 (by have := HLM.out; omega)).mono ?_
    rintro e w'' ⟨rfl, hb'⟩
    exact ⟨rfl, below_step hb hb', KeepBut.of_below hb' _ _, blk_below hx hb'⟩
   rintro e w5 ⟨v, rfl, r, bl, kp⟩
   obtain ⟨A2, c2, rfl⟩ := Kd.R_slice r
   simp only [List.length_map, List.length_range] at r
   have PR := Aside0.mk (Kd.R_mono r (fun k hk => (show k ≠ gr by have := blk_lt BR.out; omega)))
   have BR5 := Aside0.mk ((kp gr (blk_lt BR.out) NRX.out).trans BR.out)
   have PB := Aside0.mk bl
   clear r bl kp hk0 hk1 hk2 hk3
   simp only [List.length_map, List.length_range]
   obtain ⟨g0, g1, g2, g3⟩ := bc2_ BR5
   go_wp2
   refine bodyPost_ret (results_cell_row rfl _ _ gr 58 #[.int .i64 (rx a1_0 l1_1 a0_0 l0_1 0), .slice A2 l0_1.length c2] (0, 0) _ rfl (bp_ BR5.out) hu rfl (by kernel_rfl)) rfl ?_
   exact ⟨_, rfl, Kd.R_mono (Kd.R_far (Kd.R_far PR.out (fun k hk => hk) _) (fun k hk => hk) _) (fun _ _ => trivial), below_set (below_set PB.out GR.out) GR.out⟩
  ·rw [if_neg hm] at H
   exact absurd H (by simp)

end Go.Proofs.Ytjobaaolohemgaa.PFallChoices
