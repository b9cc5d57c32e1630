/- Of the law calamus/calamuslaw13.KeyBack: each function as a plain Lean function, with a proof that the call comes to it; the row. By wip/tpl/own_print.py. Conditions: none but the row's own. -/
import Derived.Test.YtealbonfaebikaaOKeyBackx0
import Derived.Test.YtealbonfaebikaaOKeyBackx1
import Derived.Test.YtealbonfaebikaaOKeyBackx2
namespace Go.Proofs.Ytealbonfaebikaa.PKeyBack
open Go.RowKit Go.Proofs.YtealbonfaebikaaW.PrintWords Go.Proofs.YtealbonfaebikaaW.PrintLast Go.Proofs.YtealbonfaebikaaW.PrintMore
attribute [local go_sem] max2_int min2_int max_two min_two max_three min_three max_four min_four   -- for this text's walks alone
set_option linter.unusedVariables false
set_option linter.unusedSimpArgs false

/-! ### key_named: function 76, by hand (key.named.lean) -/
section
open Go.Shelf
def shelf_lays103_ren : Go.Shelf.Ren := ⟨fun | 103 => 106 | 210 => 114 | 206 => 122 | n => n, fun | 9 => 9 | 4 => 4 | 24 => 108 | 3 => 3 | n => n, fun | n => n⟩
theorem shelf_lays103 : Go.Proofs.Lays.n103 Try.prog shelf_lays103_ren := {
 mixed := by kernel_rfl
 f103 := Try.func106.trans (congrArg some (by kernel_rfl))
 f206 := Try.func122.trans (congrArg some (by kernel_rfl))
 f210 := Try.func114.trans (congrArg some (by kernel_rfl))
 t3 := Try.underlying3
 a3 := Try.isAgg3
 z3 := Try.sizeOf3
 v3 := Try.zeroValue3
 t4 := Try.underlying4
 a4 := Try.isAgg4
 z4 := Try.sizeOf4
 v4 := Try.zeroValue4
 t9 := Try.underlying9
 a9 := Try.isAgg9
 z9 := Try.sizeOf9
 v9 := Try.zeroValue9
 t24 := Try.underlying108
 a24 := Try.isAgg108
 z24 := Try.sizeOf108
 v24 := Try.zeroValue108 }
open Go.RowKit in
theorem shelf_strings_CutPrefix (s p : ByteArray) (w : World) :
  Calls Try.prog 106 #[.string s, .string p] w fun e w' => e = .returned (.tuple #[.string ⟨(Lib.trimPrefix s.data.toList p.data.toList).toArray⟩, .bool (Lib.hasPrefix s.data.toList p.data.toList)]) ∧ w' = w := Any.strings_CutPrefix shelf_lays103 s p w
open Go.RowKit in

end
def key_named.t (k : Nat) (s : ByteArray) : Option (ByteArray × ByteArray) := (utf_Next.f k s 0).bind fun n => if n < 0 then some (⟨#[]⟩, ⟨#[]⟩) else if 0 < (s.size : Int) then (if bt s 0 = 60 then some (⟨#[]⟩, ⟨#[]⟩) else if n ≤ (s.size : Int) then (key_Sign.f k (s.extract 0 n.toNat)).bind fun b => if b = true then some (s.extract 0 n.toNat, s.extract n.toNat s.size) else some (⟨#[]⟩, ⟨#[]⟩) else none) else none
def key_named.f (k : Nat) (s : ByteArray) : Option (ByteArray × ByteArray) := match nmT.find? (fun p => Lib.hasPrefix s.data.toList p.2.data.toList) with | some p => some (p.1, ⟨(Lib.trimPrefix s.data.toList p.2.data.toList).toArray⟩) | none => key_named.t k s
theorem key_named.mono : ∀ a0 k, LeO (key_named.f k a0) (key_named.f (k + 1) a0) := by
 intro a0 k
 unfold key_named.f
 split
 ·exact LeO.refl _
 ·unfold key_named.t
  refine LeO.bind (utf_Next.mono _ _ _) (fun _ => LeO.ite (LeO.refl _) (LeO.ite (LeO.ite (LeO.refl _) (LeO.ite (LeO.bind (key_Sign.mono _ _) (fun _ => LeO.refl _)) (LeO.refl _))) (LeO.refl _)))
/-- Whichever entry begins the text: it is the one that 'find?' finds. -/
theorem nmd_third : ∀ p ∈ nmT, nmT.find? (fun q => q.2.data.toList.take 3 == p.2.data.toList.take 3) = some p ∧ 3 ≤ p.2.data.toList.length := by decide
theorem nmd_prefix (s p : List UInt8) (h : Lib.hasPrefix s p = true) (h3 : 3 ≤ p.length) : s.take 3 = p.take 3 := by
 obtain ⟨t, rfl⟩ := List.isPrefixOf_iff_prefix.1 h
 rw [List.take_append_of_le_length h3]
theorem nmd_one (s : List UInt8) (p q : ByteArray × ByteArray) (hp : p ∈ nmT) (hq : q ∈ nmT) (h1 : Lib.hasPrefix s p.2.data.toList = true) (h2 : Lib.hasPrefix s q.2.data.toList = true) : p = q := by
 obtain ⟨a1, a2⟩ := nmd_third p hp
 obtain ⟨b1, b2⟩ := nmd_third q hq
 have e : p.2.data.toList.take 3 = q.2.data.toList.take 3 := (nmd_prefix s _ h1 a2).symm.trans (nmd_prefix s _ h2 b2)
 rw [e] at a1
 exact Option.some.inj (a1.symm.trans b1)
theorem nmd_found (s : ByteArray) (p : ByteArray × ByteArray) (hp : p ∈ nmT) (h : Lib.hasPrefix s.data.toList p.2.data.toList = true) : nmT.find? (fun p => Lib.hasPrefix s.data.toList p.2.data.toList) = some p := by
 cases hf : nmT.find? (fun p => Lib.hasPrefix s.data.toList p.2.data.toList) with
 | none => exact absurd h (by have := List.find?_eq_none.1 hf p hp; simpa using this)
 | some q =>
  have h2 := List.find?_some hf
  rw [nmd_one s.data.toList p q hp (List.mem_of_find?_eq_some hf) h (by simpa using h2)]
theorem nmd_entry (e : MapEntry) (he : e ∈ nmE.toList) : ∃ p ∈ nmT, e.key = .string p.1 ∧ e.val = .string p.2 := by
 simp only [nmE, List.mem_cons, List.not_mem_nil, or_false] at he
 rcases he with rfl | rfl | rfl | rfl | rfl | rfl | rfl | rfl <;> exact ⟨(_, _), by simp [nmT], rfl, rfl⟩
theorem nmd_back (p : ByteArray × ByteArray) (hp : p ∈ nmT) : ∃ e ∈ nmE.toList, e.val = .string p.2 := by
 have h : nmT = nmE.toList.map (fun e => ((match e.key with | .string x => x | _ => ⟨#[]⟩), (match e.val with | .string x => x | _ => ⟨#[]⟩))) := by rfl
 rw [h] at hp
 obtain ⟨e, he, rfl⟩ := List.mem_map.1 hp
 obtain ⟨q, _, _, hv⟩ := nmd_entry e he
 exact ⟨e, he, by rw [hv]⟩
theorem nmd_old : ∀ x ∈ nmE.toList, x.born < 8 := by
 intro x hx
 simp only [nmE, List.mem_cons, List.not_mem_nil, or_false] at hx
 rcases hx with rfl | rfl | rfl | rfl | rfl | rfl | rfl | rfl <;> decide
theorem nmd_nodup : (nmE.toList.map (·.born)).Nodup := by decide
theorem nmd_none (s : ByteArray) (seen : Array Nat) (h0 : (leftOf nmE seen).size = 0) (h : ∀ e ∈ nmE.toList, seen.contains e.born = true → ∀ x, e.val = .string x → Lib.hasPrefix s.data.toList x.data.toList = false) : nmT.find? (fun p => Lib.hasPrefix s.data.toList p.2.data.toList) = none := by
 rw [List.find?_eq_none]
 intro p hp
 obtain ⟨e, he, hv⟩ := nmd_back p hp
 rw [h e he (all_seen nmE seen h0 e he) _ hv]
 decide
open ChangeMaps (setBlock) in
/-- The world behind the step, and what is known of it. -/
theorem nmd_step (w wr : World) (s : ByteArray) (r b c0 : Nat) (seen : Array Nat) (hr : wr.heap[r]? = some (.mapIter (some b) 8 seen c0)) (hb : wr.heap[b]? = some (.map nmE 8)) (hc : 8 ≤ c0) (HB : Below w.heap.size w wr) (hrw : w.heap.size ≤ r) :
  ((leftOf nmE seen).size = 0 ∧ (Instr.next (.pointer (some ⟨r, 0, none⟩)) false 0).run Try.prog wr = .ok (.tuple #[.bool false]) wr) ∨
  ∃ (p : ByteArray × ByteArray) (e : MapEntry) (w' : World), p ∈ nmT ∧ e ∈ nmE.toList ∧ e.val = .string p.2 ∧ (Instr.next (.pointer (some ⟨r, 0, none⟩)) false 0).run Try.prog wr = .ok (.tuple #[.bool true, .string p.1, .string p.2]) w' ∧ (Instr.entry (.pointer (some ⟨r, 0, none⟩))).run Try.prog w' = .ok (.tuple #[.string p.1, .string p.2]) w' ∧
   w'.heap[r]? = some (.mapIter (some b) 8 (seen.push e.born) 8) ∧ w'.heap[b]? = some (.map nmE 8) ∧ Below w.heap.size w w' ∧ (leftOf nmE (seen.push e.born)).size < (leftOf nmE seen).size := by
 rcases run_next_at (P := Try.prog) wr 0 r b 8 c0 seen nmE 8 hr hb nmd_old hc with ⟨h0, hrun⟩ | ⟨e, he, w1, hal, hrun⟩
 ·exact Or.inl ⟨h0, hrun⟩
 ·have hm := mem_left he
  obtain ⟨p, hp, hk, hv⟩ := nmd_entry e hm.1
  have hne : r ≠ b := by rintro rfl; rw [hb] at hr; cases hr
  have hlt : r < wr.heap.size := (Array.getElem?_eq_some_iff.1 hr).1
  have hh : w1.heap = wr.heap := by rcases hal with rfl | rfl <;> rfl
  have h1 : (setBlock w1 r (.mapIter (some b) 8 (seen.push e.born) 8)).heap[r]? = some (.mapIter (some b) 8 (seen.push e.born) 8) := by
   show (w1.heap.setIfInBounds r _)[r]? = _
   rw [hh, Array.getElem?_setIfInBounds_self_of_lt hlt]
  have h2 : ∀ i, i ≠ r → (setBlock w1 r (.mapIter (some b) 8 (seen.push e.born) 8)).heap[i]? = wr.heap[i]? := by
   intro i hi
   show (w1.heap.setIfInBounds r _)[i]? = _
   rw [hh, Array.getElem?_setIfInBounds_ne (Ne.symm hi)]
  have h3 : Below w.heap.size w (setBlock w1 r (.mapIter (some b) 8 (seen.push e.born) 8)) := by
   refine ⟨?_, ?_, ?_, ?_, ?_⟩
   ·have := HB.os; rcases hal with rfl | rfl <;> exact this
   ·have := HB.tape; rcases hal with rfl | rfl <;> exact this
   ·have := HB.output; rcases hal with rfl | rfl <;> exact this
   ·show _ ≤ (w1.heap.setIfInBounds r _).size; rw [Array.size_setIfInBounds, hh]; exact HB.size
   ·intro k hk'; rw [h2 k (by omega)]; exact HB.block k hk'
  have h4 := (h2 b (Ne.symm hne)).trans hb
  have hen := run_entry_at (P := Try.prog) _ r b 8 seen nmE 8 e h1 h4 hm.1 nmd_nodup
  rw [hk, hv] at hrun hen
  exact Or.inr ⟨p, e, _, hp, hm.1, hv, hrun, hen, h1, h4, h3, left_shrinks nmE seen e he⟩
set_option maxHeartbeats 4000000 in
set_option maxRecDepth 100000 in
theorem key_named.calls (k : Nat) (a0 : ByteArray) (r1 : ByteArray) (r2 : ByteArray) (w : World) (h : key_named.f k a0 = some (r1, r2)) :
  Calls Try.prog 76 #[.string a0] w fun e w' => e = .returned (.tuple #[.string r1, .string r2]) ∧ Below w.heap.size w w' := by
 have H' := Aside0.mk h
 clear h
 have hm : Try.prog.underlying 109 = some (.map 9 9) := by kernel_rfl
 go_enter Try.func76, Try.ntmps76
 have hRg := run_range_map (P := Try.prog) (w.alloc (.map nmE 8)) 109 9 9 w.heap.size nmE 8 hm (heap_alloc_new w _)
 clear hm
 go_wp2_with ((with_reducible refine gate_callee (f := 70) rfl ?_); refine ge_ (some 9) rfl rfl Try.func70 (by kernel_rfl) rfl #[] rfl (h := ?_); (with_reducible refine (key_names.calls _).mono ?_); rintro e w2 ⟨rfl, rfl⟩; refine ⟨_, rfl, ?_⟩)

 have hbm : (w.alloc (.map nmE 8)).heap[w.heap.size]? = some (.map nmE 8) := heap_alloc_new w _
 have HB := Aside0.mk (below_alloc (below_alloc (Below.refl w.heap.size w) (.map nmE 8)) (.mapIter (some w.heap.size) 8 #[] 8))
 have HI : Aside0 (((w.alloc (.map nmE 8)).alloc (.mapIter (some w.heap.size) 8 #[] 8)).heap[w.heap.size + 1]? = some (.mapIter (some w.heap.size) 8 #[] 8)) := ⟨by have := heap_alloc_new (w.alloc (.map nmE 8)) (.mapIter (some w.heap.size) 8 #[] 8); simpa using this⟩
 have HM := Aside0.mk ((heap_alloc_old (w.alloc (.map nmE 8)) (.mapIter (some w.heap.size) 8 #[] 8) (by simp)).trans hbm)
 clear hbm hRg
 go_loopg [2] 9 (fun kq v2 wr => v2 = .string ⟨#[]⟩ ∧ ∃ (seen : Array Nat) (c0 : Nat), Aside0 (wr.heap[w.heap.size + 1]? = some (.mapIter (some w.heap.size) 8 seen c0)) ∧ Aside0 (8 ≤ c0) ∧ Aside0 ((leftOf nmE seen).size < kq) ∧ Aside0 (kq ≤ 9) ∧ Aside0 (∀ e ∈ nmE.toList, seen.contains e.born = true → ∀ x, e.val = .string x → Lib.hasPrefix a0.data.toList x.data.toList = false) ∧ Aside0 (wr.heap[w.heap.size]? = some (.map nmE 8)) ∧ Aside0 (Below w.heap.size w wr))
 case atStart => exact ⟨rfl, #[], 8, HI, ⟨Nat.le_refl _⟩, ⟨Nat.lt_succ_of_le (by unfold leftOf; exact Array.size_filter_le)⟩, ⟨Nat.le_refl _⟩, ⟨fun e he hs => by simp at hs⟩, HM, HB⟩
 case round =>
  clear HB HI HM
  obtain ⟨rfl, seen, c0, HI, HC, HL, HK, HN, HM, HB⟩ := hrel
  cases gk with
  | zero => exact absurd HL.out (by omega)
  | succ k1 =>
   rcases nmd_step w wr a0 (w.heap.size + 1) w.heap.size c0 seen HI.out HM.out HC.out HB.out (by omega) with ⟨h0, hN⟩ | ⟨p, e, w2, hp, he, hv, hN, hE, hi, hm, hb, hl⟩
   ·have Hn := Aside0.mk (nmd_none a0 seen h0 HN.out)
    have H := H'.out
    unfold key_named.f at H
    rw [Hn.out] at H
    replace H : key_named.t k a0 = some (r1, r2) := H
    clear h0 HN HI HM HC HL HK H' Hn
    unfold key_named.t at H
    obtain ⟨n, A10, H⟩ := Option.bind_eq_some_iff.mp H
    have A1 := Aside0.mk A10
    clear A10
    by_cases c0 : n < 0
    ·rw [if_pos c0] at H
     have c0b : decide (n < 0) = true := decide_eq_true c0
     clear c0
     simp only [Option.some.injEq, Prod.mk.injEq] at H
     obtain ⟨rfl, rfl⟩ := H
     go_wp2_with (first | ((with_reducible refine gate_callee (f := 107) rfl ?_); refine ge_ (some 26) rfl rfl Try.func107 (by kernel_rfl) rfl #[.string a0, .int .i64 0] rfl (h := ?_); (with_reducible refine (utf_Next.calls k a0 0 n _ A1.out).mono ?_); rintro e w5 ⟨rfl, hb⟩; refine ⟨_, rfl, ?_⟩; replace HB := bs_ HB hb; clear hb; skip) | fail)
     go_ret2
     exact ⟨er_, hb_ HB⟩
    ·rw [if_neg c0] at H
     have c0b : decide (n < 0) = false := decide_eq_false c0
     have c0c : (0 ≤ n) = True := eq_true (by omega)
     clear c0
     by_cases c1 : 0 < (a0.size : Int)
     ·rw [if_pos c1] at H
      have c1b : decide (0 < (a0.size : Int)) = true := decide_eq_true c1
      have q7 : (0 < a0.size) = True := eq_true (by omega)
      have hx7 : ∀ h : 0 < a0.size, ((a0[0]'h).toNat : Int) = bt a0 0 := bt_at a0 0
      by_cases c2 : bt a0 0 = 60
      ·rw [if_pos c2] at H
       have c2b : (bt a0 0 == 60) = true := beq_iff_eq.mpr c2
       simp only [Option.some.injEq, Prod.mk.injEq] at H
       obtain ⟨rfl, rfl⟩ := H
       clear c2
       go_wp2_with (first | ((with_reducible refine gate_callee (f := 107) rfl ?_); refine ge_ (some 26) rfl rfl Try.func107 (by kernel_rfl) rfl #[.string a0, .int .i64 0] rfl (h := ?_); (with_reducible refine (utf_Next.calls k a0 0 n _ A1.out).mono ?_); rintro e w5 ⟨rfl, hb⟩; refine ⟨_, rfl, ?_⟩; replace HB := bs_ HB hb; clear hb; skip) | fail)
       go_ret2
       exact ⟨er_, hb_ HB⟩
      ·rw [if_neg c2] at H
       have c2b : (bt a0 0 == 60) = false := beq_eq_false_iff_ne.mpr c2
       clear c2
       by_cases c3 : n ≤ (a0.size : Int)
       ·rw [if_pos c3] at H
        have c3b : (n ≤ (a0.size : Int)) = True := eq_true c3
        obtain ⟨t, A20, H⟩ := Option.bind_eq_some_iff.mp H
        have A2 := Aside0.mk A20
        clear A20 c3
        cases t
        ·simp only [Bool.false_eq_true, if_false, Option.some.injEq, Prod.mk.injEq] at H
         obtain ⟨rfl, rfl⟩ := H
         go_wp2_with (first | ((with_reducible refine gate_callee (f := 107) rfl ?_); refine ge_ (some 26) rfl rfl Try.func107 (by kernel_rfl) rfl #[.string a0, .int .i64 0] rfl (h := ?_); (with_reducible refine (utf_Next.calls k a0 0 n _ A1.out).mono ?_); rintro e w5 ⟨rfl, hb⟩; refine ⟨_, rfl, ?_⟩; replace HB := bs_ HB hb; clear hb; skip) | (go_at_call 39; (with_reducible refine (key_Sign.calls k (a0.extract 0 n.toNat) _ _ A2.out).mono ?_); rintro e w6 ⟨rfl, hb⟩; replace HB := bs_ HB hb; clear hb))
         go_ret2
         exact ⟨er_, hb_ HB⟩
        ·simp only [if_true, Option.some.injEq, Prod.mk.injEq] at H
         obtain ⟨rfl, rfl⟩ := H
         go_wp2_with (first | ((with_reducible refine gate_callee (f := 107) rfl ?_); refine ge_ (some 26) rfl rfl Try.func107 (by kernel_rfl) rfl #[.string a0, .int .i64 0] rfl (h := ?_); (with_reducible refine (utf_Next.calls k a0 0 n _ A1.out).mono ?_); rintro e w5 ⟨rfl, hb⟩; refine ⟨_, rfl, ?_⟩; replace HB := bs_ HB hb; clear hb; skip) | (go_at_call 39; (with_reducible refine (key_Sign.calls k (a0.extract 0 n.toNat) _ _ A2.out).mono ?_); rintro e w6 ⟨rfl, hb⟩; replace HB := bs_ HB hb; clear hb))
         refine start_ (n := 8) (S := fun _ => True) (ds := []) #[false, false, false, false, false, false, false, false] (by kernel_rfl) rfl rfl trivial (fun hHeld => ?_)
         refine pp_ (i := 0) (N := some 41) #[true, false, false, false, false, false, false, false] rfl rfl (by kernel_rfl) (h := ?_)
         refine pp_ (i := 1) (N := some 42) #[true, true, false, false, false, false, false, false] rfl rfl (by kernel_rfl) (h := ?_)
         refine pp_ (i := 3) (N := some 44) #[true, true, false, true, false, false, false, false] rfl rfl (by kernel_rfl) (h := ?_)
         refine pp_ (i := 4) (N := some 45) #[true, true, false, true, true, false, false, false] rfl rfl (by kernel_rfl) (h := ?_)
         refine take_ (i := 2) (N := some 43) (v := ?_) (a' := ?_) #[true, true, true, true, true, false, false, false] rfl rfl (by kernel_rfl) (fun _ _ _ h => h) (Or.inl ⟨by rfl, ?_⟩) hHeld ?_ ?_
         rotate_left
         ·rintro w' _
          go_simp
          with_reducible rfl
         rotate_left
         ·simp only [Act.put, List.setIfInBounds_toArray, List.set_cons_zero, List.set_cons_succ, i64_w, i32_w]
          rfl
         refine take_ (i := 5) (N := some 46) (v := ?_) (a' := ?_) #[true, true, true, true, true, true, false, false] rfl rfl (by kernel_rfl) (fun _ _ _ h => h) (Or.inl ⟨by rfl, ?_⟩) hHeld ?_ ?_
         rotate_left
         ·rintro w' _
          go_simp
          with_reducible rfl
         rotate_left
         ·simp only [Act.put, List.setIfInBounds_toArray, List.set_cons_zero, List.set_cons_succ, i64_w, i32_w]
          rfl
         refine pp_ (i := 6) (N := some 2) #[true, true, true, true, true, true, true, false] rfl rfl (by kernel_rfl) (h := ?_)
         refine pp_ (i := 7) (N := some 3) #[true, true, true, true, true, true, true, true] rfl rfl (by kernel_rfl) (h := ?_)
         refine done_ (by kernel_rfl) ?_
         try go_wp2
         go_ret2
         exact ⟨er_, hb_ HB⟩
       ·rw [if_neg c3] at H
        exact absurd H (by simp)
     ·rw [if_neg c1] at H
      exact absurd H (by simp)
   ·by_cases hpx : Lib.hasPrefix a0.data.toList p.2.data.toList = true
    ·have H := H'.out
     unfold key_named.f at H
     rw [nmd_found a0 p hp hpx] at H
     simp only [Option.some.injEq, Prod.mk.injEq] at H
     obtain ⟨rfl, rfl⟩ := H
     have HB2 := Aside0.mk hb
     clear hi hm hb hl hv he hp HN HI HM HC HL HK HB
     go_wp2_with ((with_reducible refine gate_callee (f := 106) rfl ?_); refine ge_ (some 19) rfl rfl Try.func106 (by kernel_rfl) rfl #[.string a0, .string p.2] rfl (h := ?_); (with_reducible refine (shelf_strings_CutPrefix a0 p.2 _).mono ?_); rintro e w5 ⟨rfl, rfl⟩; refine ⟨_, rfl, ?_⟩)
     go_ret2
     exact ⟨er_, hb_ HB2⟩
    ·replace hpx := Bool.eq_false_iff.mpr hpx
     have HN2 := Aside0.mk (show ∀ e' ∈ nmE.toList, (seen.push e.born).contains e'.born = true → ∀ x, e'.val = .string x → Lib.hasPrefix a0.data.toList x.data.toList = false from fun e' he' hs x hx => by
      rw [contains_push] at hs
      cases hc : seen.contains e'.born with
      | true => exact HN.out e' he' hc x hx
      | false =>
       rw [hc, Bool.false_or, beq_iff_eq] at hs
       rw [born_inj nmd_nodup he' he hs, hv] at hx
       cases hx
       exact hpx)
     have HI2 := Aside0.mk hi
     have HM2 := Aside0.mk hm
     have HB2 := Aside0.mk hb
     have HL2 := Aside0.mk (show (leftOf nmE (seen.push e.born)).size < k1 by have := HL.out; omega)
     have HK2 := Aside0.mk (show k1 ≤ 9 by have := HK.out; omega)
     clear hi hm hb hl hv he hp HN HI HM HC HL HB
     go_wp2_with ((with_reducible refine gate_callee (f := 106) rfl ?_); refine ge_ (some 19) rfl rfl Try.func106 (by kernel_rfl) rfl #[.string a0, .string p.2] rfl (h := ?_); (with_reducible refine (shelf_strings_CutPrefix a0 p.2 _).mono ?_); rintro e w5 ⟨rfl, rfl⟩; refine ⟨_, rfl, ?_⟩)
     go_roundg k1
     case measure => omega
     case rel => exact ⟨rfl, _, _, HI2, ⟨Nat.le_refl _⟩, HL2, HK2, HN2, HM2, HB2⟩

/-! ### key_Parse: function 48, by hand (key.Parse.lean) -/
def key_Parse.l0 : Nat → ByteArray → ByteArray → Option (ByteArray × Int)
 | 0, _, _ => none
 | k + 1, s, b => if s.toList = ([] : List UInt8) then some (b, 0) else (key_named.f k s).bind fun p => if p.1.toList = ([] : List UInt8) then some (⟨#[]⟩, 3) else if b.size + p.1.size ≤ 140737488355328 then key_Parse.l0 k p.2 (b ++ p.1) else none
def key_Parse.f (k : Nat) (a0 : ByteArray) : Option (ByteArray × Int) := (utf_Valid.f k a0).bind fun t => if t = true then key_Parse.l0 k a0 ⟨#[]⟩ else some (⟨#[]⟩, 5)
theorem key_Parse.mono_l : ∀ k, (∀ s b, LeO (key_Parse.l0 k s b) (key_Parse.l0 (k + 1) s b))
 | 0 => fun _ _ r h => by simp [key_Parse.l0] at h
 | k + 1 => by
  have ih := key_Parse.mono_l k
  intro s b
  unfold key_Parse.l0
  refine LeO.ite (LeO.refl _) (LeO.bind (key_named.mono _ _) (fun _ => LeO.ite (LeO.refl _) (LeO.ite (ih _ _) (LeO.none _))))
theorem key_Parse.mono : ∀ a0 k, LeO (key_Parse.f k a0) (key_Parse.f (k + 1) a0) := by
 intro a0 k
 unfold key_Parse.f
 refine LeO.bind (utf_Valid.mono _ _) (fun _ => LeO.ite (key_Parse.mono_l _ _ _) (LeO.refl _))
/-- A builder that holds these bytes. -/
def bld (B b : Nat) (s : ByteArray) (w : World) : Prop := Lib.IsBuilder 117 5 B b (Lib.strCells s) w
theorem bld_below {B b : Nat} {s : ByteArray} {w w' : World} (h : bld B b s w) (hb : Below w.heap.size w w') : bld B b s w' := by
 unfold bld Lib.IsBuilder at h ⊢
 refine h.imp (fun h => ?_) (fun h => ?_) <;>
 ·have hlt := h.lt
  obtain ⟨h1, v, h2, h3, h4⟩ := h
  exact ⟨h1, v, (hb.block b hlt).trans h2, pw_own_below h3 hb, h4⟩
theorem bld_new {B b : Nat} {w : World} (hB : B ≤ b) (h : w.heap[b]? = some (.cells #[.pointer none, .slice none 0 0] 117 (0, 0))) : bld B b ⟨#[]⟩ w :=
 Or.inl ⟨hB, .slice none 0 0, h, ⟨rfl, Or.inl ⟨rfl, rfl⟩⟩, by simp [Value.ownBlock]⟩
theorem bld_write (B b : Nat) (t s : ByteArray) (w : World) (h : bld B b t w) (hlen : t.size + s.size ≤ 140737488355328) (hBw : B ≤ w.heap.size) :
  Calls Try.prog 77 #[.pointer (some ⟨b, 0, none⟩), .string s] w fun e w' => e = .returned (.tuple #[.int .i64 s.size, .nilIface]) ∧ bld B b (t ++ s) w' ∧ Below B w w' := by
 refine (Any.Builder_WriteString { shelf_lays156 with } shelf_Builder_Extra_156 B b (Lib.strCells t) s w h (by rw [Lib.strCells_length]; exact hlen) hBw).mono ?_
 rintro e w' ⟨rfl, h1, h2⟩
 refine ⟨rfl, Or.inr ?_, h2⟩
 have e : Lib.strCells (t ++ s) = Lib.strCells t ++ Lib.strCells s := by simp [Lib.strCells, ByteArray.data_append]
 rw [e]
 exact h1
theorem bld_text (B b : Nat) (t : ByteArray) (w : World) (h : bld B b t w) (hBw : B ≤ w.heap.size) :
  Calls Try.prog 78 #[.pointer (some ⟨b, 0, none⟩)] w fun e w' => e = .returned (.string t) ∧ Below B w w' :=
 Any.Builder_String_any { shelf_lays156 with } shelf_Builder_Extra_156 B b t.data.toList w h hBw
set_option maxHeartbeats 4000000 in
set_option maxRecDepth 100000 in
theorem key_Parse.calls (k : Nat) (a0 : ByteArray) (r1 : ByteArray) (r2 : Int) (w : World) (h : key_Parse.f k a0 = some (r1, r2)) :
  Calls Try.prog 48 #[.string a0] w fun e w' => e = .returned (.tuple #[.string r1, .int .i64 r2]) ∧ Below w.heap.size w w' := by
 have HB := Aside0.mk (Below.refl w.heap.size w)
 unfold key_Parse.f at h
 obtain ⟨t1, A10, H⟩ := Option.bind_eq_some_iff.mp h
 have A1 := Aside0.mk A10
 clear h A10
 cases t1
 case false =>
  obtain ⟨rfl, rfl⟩ : (⟨#[]⟩ : ByteArray) = r1 ∧ (5 : Int) = r2 := by simpa using H
  go_enter Try.func48, Try.ntmps48
  go_wp2_with ((with_reducible refine gate_callee (f := 74) rfl ?_); refine ge_ (some 8) rfl rfl Try.func74 (by kernel_rfl) rfl #[.string a0] rfl (h := ?_); (with_reducible refine (utf_Valid.calls k a0 _ _ A1.out).mono ?_); rintro e w2 ⟨rfl, hb⟩; refine ⟨_, rfl, ?_⟩; replace HB := bs_ HB hb; clear hb)
  go_ret2
  exact ⟨er_, hb_ HB⟩
 case true =>
  have H' : Aside0 (key_Parse.l0 k a0 ⟨#[]⟩ = some (r1, r2)) := ⟨H⟩
  clear H
  go_enter Try.func48, Try.ntmps48
  go_wp2_with (first | ((with_reducible refine gate_callee (f := 74) rfl ?_); refine ge_ (some 8) rfl rfl Try.func74 (by kernel_rfl) rfl #[.string a0] rfl (h := ?_); (with_reducible refine (utf_Valid.calls k a0 _ _ A1.out).mono ?_); rintro e w2 ⟨rfl, hb⟩; refine ⟨_, rfl, ?_⟩; replace HB := bs_ HB hb; clear hb) | ((with_reducible refine gate_dst (N := 4) rfl ?_); refine be_ (N := 4) (cs := #[.pointer none, .slice none 0 0]) (t := 117) (h := ?_); intro gb hg w3 hbox hb; have BK := Aside0.mk hbox; have GB := gw_ HB hg; replace HB := bs_ HB hb; clear hb hbox hg))
  have HT := Aside0.mk (bld_new GB.out BK.out)
  simp only [Act.put, List.setIfInBounds_toArray, List.set_cons_succ, List.set_cons_zero]
  clear BK
  go_loopg [0] k (fun kq v0 wr => ∃ (s t : ByteArray), v0 = .string s ∧ Aside0 (key_Parse.l0 kq s t = some (r1, r2)) ∧ Aside0 (kq ≤ k) ∧ Aside0 (bld w.heap.size gb t wr) ∧ Aside0 (Below w.heap.size w wr))
  case atStart => exact ⟨a0, ⟨#[]⟩, rfl, H', ⟨Nat.le_refl _⟩, HT, HB⟩
  case round =>
   clear HB HT H'
   obtain ⟨s, t, rfl, HA, HK, HT, HB⟩ := hrel
   cases gk with
   | zero => exact absurd HA.out (by simp [key_Parse.l0])
   | succ k1 =>
    have H := HA.out
    clear HA
    simp only [key_Parse.l0] at H
    by_cases c1 : s.toList = ([] : List UInt8)
    ·rw [if_pos c1] at H
     have c1b0 : (s.toList == ([] : List UInt8)) = true := beq_iff_eq.mpr c1
     have c1b1 : (s.toList != ([] : List UInt8)) = false := bne_eq_false_iff_eq.mpr c1
     clear c1
     obtain ⟨rfl, rfl⟩ : t = r1 ∧ (0 : Int) = r2 := by simpa using H
     go_wp2_with ((with_reducible refine gate_callee (f := 78) rfl ?_); refine ge_ (some 22) rfl rfl Try.func78 (by kernel_rfl) rfl #[.pointer (some ⟨gb, 0, none⟩)] rfl (h := ?_); (with_reducible refine (bld_text w.heap.size gb t _ HT.out HB.out.size).mono ?_); rintro e w5 ⟨rfl, hb⟩; refine ⟨_, rfl, ?_⟩; replace HB := Aside0.mk (HB.out.trans hb); clear hb HT)
     go_ret2
     exact ⟨er_, hb_ HB⟩
    ·rw [if_neg c1] at H
     have c1b0 : (s.toList == ([] : List UInt8)) = false := beq_eq_false_iff_ne.mpr c1
     have c1b1 : (s.toList != ([] : List UInt8)) = true := bne_iff_ne.mpr c1
     clear c1
     obtain ⟨⟨x, y⟩, A20, H⟩ := Option.bind_eq_some_iff.mp H
     replace H : (if x.toList = ([] : List UInt8) then some (⟨#[]⟩, 3) else if t.size + x.size ≤ 140737488355328 then key_Parse.l0 k1 y (t ++ x) else none) = some (r1, r2) := H
     have A2 := Aside0.mk A20
     clear A20
     by_cases c2 : x.toList = ([] : List UInt8)
     ·rw [if_pos c2] at H
      have c2b0 : (x.toList == ([] : List UInt8)) = true := beq_iff_eq.mpr c2
      clear c2
      obtain ⟨rfl, rfl⟩ : (⟨#[]⟩ : ByteArray) = r1 ∧ (3 : Int) = r2 := by simpa using H
      go_wp2_with ((with_reducible refine gate_callee (f := 76) rfl ?_); refine ge_ (some 14) rfl rfl Try.func76 (by kernel_rfl) rfl #[.string s] rfl (h := ?_); (with_reducible refine (key_named.calls k1 s x y _ A2.out).mono ?_); rintro e w5 ⟨rfl, hb⟩; refine ⟨_, rfl, ?_⟩; replace HB := bs_ HB hb; clear hb HT)
      go_ret2
      exact ⟨er_, hb_ HB⟩
     ·rw [if_neg c2] at H
      have c2b0 : (x.toList == ([] : List UInt8)) = false := beq_eq_false_iff_ne.mpr c2
      clear c2
      by_cases c3 : t.size + x.size ≤ 140737488355328
      ·rw [if_pos c3] at H
       have C3 := Aside0.mk c3
       have H2 := Aside0.mk H
       have HK2 := Aside0.mk (show k1 ≤ k by have := HK.out; omega)
       clear c3 H HK
       go_wp2_with (first | ((with_reducible refine gate_callee (f := 76) rfl ?_); refine ge_ (some 14) rfl rfl Try.func76 (by kernel_rfl) rfl #[.string s] rfl (h := ?_); (with_reducible refine (key_named.calls k1 s x y _ A2.out).mono ?_); rintro e w5 ⟨rfl, hb⟩; refine ⟨_, rfl, ?_⟩; replace HT := Aside0.mk (bld_below HT.out hb); replace HB := bs_ HB hb; clear hb) | ((with_reducible refine gate_callee (f := 77) rfl ?_); refine ge_ (some 20) rfl rfl Try.func77 (by kernel_rfl) rfl #[.pointer (some ⟨gb, 0, none⟩), .string x] rfl (h := ?_); (with_reducible refine (bld_write w.heap.size gb t x _ HT.out C3.out HB.out.size).mono ?_); rintro e w6 ⟨rfl, ht, hb⟩; refine ⟨_, rfl, ?_⟩; replace HT := Aside0.mk ht; replace HB := Aside0.mk (HB.out.trans hb); clear hb ht))
       go_roundg k1
       case measure => have := HK2.out; omega
       case rel => exact ⟨_, _, rfl, H2, HK2, HT, HB⟩
      ·rw [if_neg c3] at H
       exact absurd H (by simp)

/-! ### calamuslaw13_KeyBack: function 12 -/
mutual
def calamuslaw13_KeyBack.j0 : Nat → ByteArray → ByteArray → Bool → Option (Bool)
 | 0, _, _, _ => none
 | k + 1, x0, x1, x20 => if x20 = true then ((calamuslaw13_lives.f k).bind fun t126 => (some t126)) else ((key_Text.f k x0).bind fun bt127 => (if bt127.2 = 0 then ((key_Parse.f k bt127.1).bind fun bt129 => (if bt129.1.toList = x0.toList then (if bt129.2 = 0 then (calamuslaw13_KeyBack.j1 k x1) else (some false)) else (some false))) else (calamuslaw13_KeyBack.j1 k x1)))
def calamuslaw13_KeyBack.j1 : Nat → ByteArray → Option (Bool)
 | 0, _ => none
 | k + 1, x1 => (key_Parse.f k x1).bind fun bt131 => (if bt131.2 = 0 then ((key_Text.f k bt131.1).bind fun bt133 => (if bt133.1.toList = x1.toList then (if bt133.2 = 0 then ((calamuslaw13_lives.f k).bind fun t135 => (some t135)) else (some false)) else (some false))) else (if bt131.1.toList = ([] : List UInt8) then ((calamuslaw13_lives.f k).bind fun t136 => (some t136)) else (some false)))
end
def calamuslaw13_KeyBack.f (k : Nat) (a0 : ByteArray) (a1 : ByteArray) : Option (Bool) := if (a0.size : Int) > 1000 then (calamuslaw13_KeyBack.j0 k a0 a1 true) else (calamuslaw13_KeyBack.j0 k a0 a1 (decide ((a1.size : Int) > 1000)))
theorem calamuslaw13_KeyBack.mono_l : ∀ k, (∀ y0 y1 y2, LeO (calamuslaw13_KeyBack.j0 k y0 y1 y2) (calamuslaw13_KeyBack.j0 (k + 1) y0 y1 y2)) ∧ (∀ y0, LeO (calamuslaw13_KeyBack.j1 k y0) (calamuslaw13_KeyBack.j1 (k + 1) y0))
 | 0 => ⟨fun _ _ _ r h => by simp [calamuslaw13_KeyBack.j0] at h, fun _ r h => by simp [calamuslaw13_KeyBack.j1] at h⟩
 | k + 1 => by
  obtain ⟨ih0, ih1⟩ := calamuslaw13_KeyBack.mono_l k
  refine ⟨?_, ?_⟩
  ·intro y0 y1 y2
   unfold calamuslaw13_KeyBack.j0
   repeat' first
   | (with_reducible exact ih0 _ _ _)
   | (with_reducible exact ih1 _)
   | (with_reducible exact calamuslaw13_lives.mono _)
   | (with_reducible exact key_Parse.mono _ _)
   | (with_reducible exact key_Text.mono _ _)
   | (with_reducible exact LeO.refl _)
   | (with_reducible exact LeO.none _)
   | (with_reducible refine LeO.ite ?_ ?_)
   | (with_reducible refine LeO.bind ?_ (fun _ => ?_))
   | exact ih0 _ _ _
   | exact ih1 _
   | exact calamuslaw13_lives.mono _
   | exact key_Parse.mono _ _
   | exact key_Text.mono _ _
   | exact LeO.none _
   | refine LeO.ite ?_ ?_
   | refine LeO.bind ?_ (fun _ => ?_)
  ·intro y0
   unfold calamuslaw13_KeyBack.j1
   repeat' first
   | (with_reducible exact ih0 _ _ _)
   | (with_reducible exact ih1 _)
   | (with_reducible exact calamuslaw13_lives.mono _)
   | (with_reducible exact key_Parse.mono _ _)
   | (with_reducible exact key_Text.mono _ _)
   | (with_reducible exact LeO.refl _)
   | (with_reducible exact LeO.none _)
   | (with_reducible refine LeO.ite ?_ ?_)
   | (with_reducible refine LeO.bind ?_ (fun _ => ?_))
   | exact ih0 _ _ _
   | exact ih1 _
   | exact calamuslaw13_lives.mono _
   | exact key_Parse.mono _ _
   | exact key_Text.mono _ _
   | exact LeO.none _
   | refine LeO.ite ?_ ?_
   | refine LeO.bind ?_ (fun _ => ?_)
theorem calamuslaw13_KeyBack.mono : ∀ a0 a1 k, LeO (calamuslaw13_KeyBack.f k a0 a1) (calamuslaw13_KeyBack.f (k + 1) a0 a1) := by
 intro a0 a1 k
 obtain ⟨ih0, ih1⟩ := calamuslaw13_KeyBack.mono_l k
 unfold calamuslaw13_KeyBack.f
 repeat' first
   | (with_reducible exact ih0 _ _ _)
   | (with_reducible exact ih1 _)
   | (with_reducible exact calamuslaw13_lives.mono _)
   | (with_reducible exact key_Parse.mono _ _)
   | (with_reducible exact key_Text.mono _ _)
   | (with_reducible exact LeO.refl _)
   | (with_reducible exact LeO.none _)
   | (with_reducible refine LeO.ite ?_ ?_)
   | (with_reducible refine LeO.bind ?_ (fun _ => ?_))
   | exact ih0 _ _ _
   | exact ih1 _
   | exact calamuslaw13_lives.mono _
   | exact key_Parse.mono _ _
   | exact key_Text.mono _ _
   | exact LeO.none _
   | refine LeO.ite ?_ ?_
   | refine LeO.bind ?_ (fun _ => ?_)
set_option maxHeartbeats 8000000 in
set_option maxRecDepth 100000 in
theorem calamuslaw13_KeyBack.calls (k : Nat) (a0 : ByteArray) (a1 : ByteArray) (r : Bool) (w : World) (h : calamuslaw13_KeyBack.f k a0 a1 = some r) (hr_ : r = true := by rfl) :
  Calls Try.prog 12 #[.string a0, .string a1] w fun e w' => e = .returned (.bool r) ∧ Below w.heap.size w w' := by
 have HB := Aside0.mk (Below.refl w.heap.size w)
 have H : (if (a0.size : Int) > 1000 then (calamuslaw13_KeyBack.j0 k a0 a1 true) else (calamuslaw13_KeyBack.j0 k a0 a1 (decide ((a1.size : Int) > 1000)))) = some r := h
 clear h
 have HC3 := Aside0.mk H
 clear H
 go_enter Try.func12, Try.ntmps12
 go_upto_region 1 with (fail)
 go_cut [20] (fun v20 wc => ∃ (kq : Nat) (x20_2 : Bool), v20 = .bool x20_2 ∧ Aside0 (calamuslaw13_KeyBack.j0 kq a0 a1 x20_2 = some r) ∧ Aside0 (kq ≤ k) ∧ Aside0 (Below w.heap.size w wc))
 case first =>
  have H := HC3.out
  clear HC3
  by_cases c4 : (a0.size : Int) > 1000
  ·rw [if_pos c4] at H
   have c4b0 : decide (1000 < (a0.size : Int)) = true := decide_eq_true c4
   have c4b1 : decide (1000 < a0.size) = true := decide_eq_true (by omega)
   clear c4
   (first | rw [c4b0] | (simp only [i64_w, i32_w]; rw [c4b0]) | skip)
   have H' := Aside0.mk H
   clear H
   go_wp2
   go_meet
   case rel => exact ⟨_, (true), es_, H', ⟨by first | omega | exact Nat.le_refl _⟩, ⟨hb_ HB⟩⟩
  ·rw [if_neg c4] at H
   have c4b0 : decide (1000 < (a0.size : Int)) = false := decide_eq_false c4
   have c4b1 : decide (1000 < a0.size) = false := decide_eq_false (by omega)
   clear c4
   (first | rw [c4b0] | (simp only [i64_w, i32_w]; rw [c4b0]) | skip)
   have H' := Aside0.mk H
   clear H
   go_wp2
   go_meet
   case rel => exact ⟨_, (decide ((a1.size : Int) > 1000)), es_, H', ⟨by first | omega | exact Nat.le_refl _⟩, ⟨hb_ HB⟩⟩
 case rest =>
  clear HC3
  obtain ⟨kq, x20_2, rfl, HA, HJ2, HB⟩ := hcut
  cases kq with
  | zero => exact absurd HA.out (by simp [calamuslaw13_KeyBack.j0])
  | succ kj2 =>
   have H := HA.out
   clear HA
   simp only [calamuslaw13_KeyBack.j0] at H
   by_cases c5 : x20_2 = true
   ·subst c5
    have H1 : ((calamuslaw13_lives.f kj2).bind fun t126 => (some t126)) = some r := by rw [if_pos rfl] at H; exact H
    clear H
    have H := H1
    clear H1
    replace H := Option.bind_eq_some_iff.mp H
    obtain ⟨t126, A60, H⟩ := H
    replace H : (some t126) = some r := H
    have A6 := Aside0.mk A60
    clear A60
    obtain rfl := Option.some.inj H
    go_wp2_with (first | ((with_reducible refine gate_callee (f := 43) rfl ?_); refine ge_ (some 21) rfl rfl Try.func43 (by kernel_rfl) rfl #[] rfl (h := ?_); (with_reducible refine (calamuslaw13_lives.calls kj2  t126 _ A6.out).mono ?_); rintro e w7 ⟨rfl, hb⟩; refine ⟨_, rfl, ?_⟩; replace HB := bs_ HB hb; (try clear hb); (try clear hb2); (try clear hk); (try clear hi)))
    go_ret
    exact ⟨er_, hb_ HB⟩
   ·replace c5 := Bool.eq_false_iff.mpr c5
    subst c5
    have H1 : ((key_Text.f kj2 a0).bind fun bt127 => (if bt127.2 = 0 then ((key_Parse.f kj2 bt127.1).bind fun bt129 => (if bt129.1.toList = a0.toList then (if bt129.2 = 0 then (calamuslaw13_KeyBack.j1 kj2 a1) else (some false)) else (some false))) else (calamuslaw13_KeyBack.j1 kj2 a1))) = some r := by rw [if_neg (show ¬ (false = true) by decide)] at H; exact H
    clear H
    have H := H1
    clear H1
    replace H := Option.bind_eq_some_iff.mp H
    obtain ⟨⟨t127, t128⟩, A80, H⟩ := H
    replace H : (if t128 = 0 then ((key_Parse.f kj2 t127).bind fun bt129 => (if bt129.1.toList = a0.toList then (if bt129.2 = 0 then (calamuslaw13_KeyBack.j1 kj2 a1) else (some false)) else (some false))) else (calamuslaw13_KeyBack.j1 kj2 a1)) = some r := H
    have A8 := Aside0.mk A80
    clear A80
    have HC9 := Aside0.mk H
    clear H
    go_upto_if 28 with (first | ((with_reducible refine gate_callee (f := 44) rfl ?_); refine ge_ (some 24) rfl rfl Try.func44 (by kernel_rfl) rfl #[.string a0] rfl (h := ?_); (with_reducible refine (key_Text.calls kj2 a0 t127 t128 _ A8.out).mono ?_); rintro e w10 ⟨rfl, hb⟩; refine ⟨_, rfl, ?_⟩; replace HB := bs_ HB hb; (try clear hb); (try clear hb2); (try clear hk); (try clear hi)))
    (try simp only [Act.put, List.setIfInBounds_toArray, List.set_cons_zero, List.set_cons_succ])
    go_cut [] (fun wc => ∃ (kq : Nat), Aside0 (calamuslaw13_KeyBack.j1 kq a1 = some r) ∧ Aside0 (kq ≤ kj2) ∧ Aside0 (Below w.heap.size w wc))
    case first =>
     have H := HC9.out
     clear HC9
     by_cases c11 : t128 = 0
     ·rw [if_pos c11] at H
      have c11b0 : (t128 == 0) = true := beq_iff_eq.mpr c11
      have c11b1 : (t128 != 0) = false := bne_eq_false_iff_eq.mpr c11
      clear c11
      (first | rw [c11b0] | (simp only [i64_w, i32_w]; rw [c11b0]) | skip)
      replace H := Option.bind_eq_some_iff.mp H
      obtain ⟨⟨t129, t130⟩, A120, H⟩ := H
      replace H : (if t129.toList = a0.toList then (if t130 = 0 then (calamuslaw13_KeyBack.j1 kj2 a1) else (some false)) else (some false)) = some r := H
      have A12 := Aside0.mk A120
      clear A120
      by_cases c13 : t129.toList = a0.toList
      ·rw [if_pos c13] at H
       have c13b0 : (t129.toList == a0.toList) = true := beq_iff_eq.mpr c13
       have c13b1 : (t129.toList != a0.toList) = false := bne_eq_false_iff_eq.mpr c13
       clear c13
       by_cases c14 : t130 = 0
       ·rw [if_pos c14] at H
        have c14b0 : (t130 == 0) = true := beq_iff_eq.mpr c14
        have c14b1 : (t130 != 0) = false := bne_eq_false_iff_eq.mpr c14
        clear c14
        have H' := Aside0.mk H
        clear H
        go_wp2_with (first | ((with_reducible refine gate_callee (f := 48) rfl ?_); refine ge_ (some 31) rfl rfl Try.func48 (by kernel_rfl) rfl #[.string t127] rfl (h := ?_); (with_reducible refine (key_Parse.calls kj2 t127 t129 t130 _ A12.out).mono ?_); rintro e w15 ⟨rfl, hb⟩; refine ⟨_, rfl, ?_⟩; replace HB := bs_ HB hb; (try clear hb); (try clear hb2); (try clear hk); (try clear hi)))
        go_meet
        case rel => exact ⟨_, H', ⟨by have := HJ2.out; first | omega | exact Nat.le_refl _⟩, ⟨hb_ HB⟩⟩
       ·rw [if_neg c14] at H
        have c14b0 : (t130 == 0) = false := beq_eq_false_iff_ne.mpr c14
        have c14b1 : (t130 != 0) = true := bne_iff_ne.mpr c14
        exact nf_ H hr_
      ·rw [if_neg c13] at H
       have c13b0 : (t129.toList == a0.toList) = false := beq_eq_false_iff_ne.mpr c13
       have c13b1 : (t129.toList != a0.toList) = true := bne_iff_ne.mpr c13
       exact nf_ H hr_
     ·rw [if_neg c11] at H
      have c11b0 : (t128 == 0) = false := beq_eq_false_iff_ne.mpr c11
      have c11b1 : (t128 != 0) = true := bne_iff_ne.mpr c11
      (first | rw [c11b0] | (simp only [i64_w, i32_w]; rw [c11b0]) | skip)
      have H' := Aside0.mk H
      clear H
      go_wp2
      go_meet
      case rel => exact ⟨_, H', ⟨by have := HJ2.out; first | omega | exact Nat.le_refl _⟩, ⟨hb_ HB⟩⟩
    case rest =>
     clear HC9
     try clear c5
     obtain ⟨kq, HA, HJ8, HB⟩ := hcut
     cases kq with
     | zero => exact absurd HA.out (by simp [calamuslaw13_KeyBack.j1])
     | succ kj8 =>
      have H := HA.out
      clear HA
      simp only [calamuslaw13_KeyBack.j1] at H
      replace H := Option.bind_eq_some_iff.mp H
      obtain ⟨⟨t131, t132⟩, A180, H⟩ := H
      replace H : (if t132 = 0 then ((key_Text.f kj8 t131).bind fun bt133 => (if bt133.1.toList = a1.toList then (if bt133.2 = 0 then ((calamuslaw13_lives.f kj8).bind fun t135 => (some t135)) else (some false)) else (some false))) else (if t131.toList = ([] : List UInt8) then ((calamuslaw13_lives.f kj8).bind fun t136 => (some t136)) else (some false))) = some r := H
      have A18 := Aside0.mk A180
      clear A180
      by_cases c19 : t132 = 0
      ·rw [if_pos c19] at H
       have c19b0 : (t132 == 0) = true := beq_iff_eq.mpr c19
       have c19b1 : (t132 != 0) = false := bne_eq_false_iff_eq.mpr c19
       clear c19
       replace H := Option.bind_eq_some_iff.mp H
       obtain ⟨⟨t133, t134⟩, A200, H⟩ := H
       replace H : (if t133.toList = a1.toList then (if t134 = 0 then ((calamuslaw13_lives.f kj8).bind fun t135 => (some t135)) else (some false)) else (some false)) = some r := H
       have A20 := Aside0.mk A200
       clear A200
       by_cases c21 : t133.toList = a1.toList
       ·rw [if_pos c21] at H
        have c21b0 : (t133.toList == a1.toList) = true := beq_iff_eq.mpr c21
        have c21b1 : (t133.toList != a1.toList) = false := bne_eq_false_iff_eq.mpr c21
        clear c21
        by_cases c22 : t134 = 0
        ·rw [if_pos c22] at H
         have c22b0 : (t134 == 0) = true := beq_iff_eq.mpr c22
         have c22b1 : (t134 != 0) = false := bne_eq_false_iff_eq.mpr c22
         clear c22
         replace H := Option.bind_eq_some_iff.mp H
         obtain ⟨t135, A230, H⟩ := H
         replace H : (some t135) = some r := H
         have A23 := Aside0.mk A230
         clear A230
         obtain rfl := Option.some.inj H
         go_wp2_with (first | ((with_reducible refine gate_callee (f := 48) rfl ?_); refine ge_ (some 43) rfl rfl Try.func48 (by kernel_rfl) rfl #[.string a1] rfl (h := ?_); (with_reducible refine (key_Parse.calls kj8 a1 t131 t132 _ A18.out).mono ?_); rintro e w24 ⟨rfl, hb⟩; refine ⟨_, rfl, ?_⟩; replace HB := bs_ HB hb; (try clear hb); (try clear hb2); (try clear hk); (try clear hi)) | ((with_reducible refine gate_callee (f := 44) rfl ?_); refine ge_ (some 55) rfl rfl Try.func44 (by kernel_rfl) rfl #[.string t131] rfl (h := ?_); (with_reducible refine (key_Text.calls kj8 t131 t133 t134 _ A20.out).mono ?_); rintro e w25 ⟨rfl, hb⟩; refine ⟨_, rfl, ?_⟩; replace HB := bs_ HB hb; (try clear hb); (try clear hb2); (try clear hk); (try clear hi)) | (go_at_call 43; (with_reducible refine (calamuslaw13_lives.calls kj8  t135 _ A23.out).mono ?_); rintro e w26 ⟨rfl, hb⟩; replace HB := bs_ HB hb; (try clear hb); (try clear hb2); (try clear hk); (try clear hi)))
         go_ret
         exact ⟨er_, hb_ HB⟩
        ·rw [if_neg c22] at H
         have c22b0 : (t134 == 0) = false := beq_eq_false_iff_ne.mpr c22
         have c22b1 : (t134 != 0) = true := bne_iff_ne.mpr c22
         exact nf_ H hr_
       ·rw [if_neg c21] at H
        have c21b0 : (t133.toList == a1.toList) = false := beq_eq_false_iff_ne.mpr c21
        have c21b1 : (t133.toList != a1.toList) = true := bne_iff_ne.mpr c21
        exact nf_ H hr_
      ·rw [if_neg c19] at H
       have c19b0 : (t132 == 0) = false := beq_eq_false_iff_ne.mpr c19
       have c19b1 : (t132 != 0) = true := bne_iff_ne.mpr c19
       by_cases c31 : t131.toList = ([] : List UInt8)
       ·rw [if_pos c31] at H
        have c31b0 : (t131.toList == ([] : List UInt8)) = true := beq_iff_eq.mpr c31
        have c31b1 : (t131.toList != ([] : List UInt8)) = false := bne_eq_false_iff_eq.mpr c31
        clear c31
        replace H := Option.bind_eq_some_iff.mp H
        obtain ⟨t136, A320, H⟩ := H
        replace H : (some t136) = some r := H
        have A32 := Aside0.mk A320
        clear A320
        obtain rfl := Option.some.inj H
        go_wp2_with (first | ((with_reducible refine gate_callee (f := 48) rfl ?_); refine ge_ (some 43) rfl rfl Try.func48 (by kernel_rfl) rfl #[.string a1] rfl (h := ?_); (with_reducible refine (key_Parse.calls kj8 a1 t131 t132 _ A18.out).mono ?_); rintro e w33 ⟨rfl, hb⟩; refine ⟨_, rfl, ?_⟩; replace HB := bs_ HB hb; (try clear hb); (try clear hb2); (try clear hk); (try clear hi)) | (go_at_call 43; (with_reducible refine (calamuslaw13_lives.calls kj8  t136 _ A32.out).mono ?_); rintro e w34 ⟨rfl, hb⟩; replace HB := bs_ HB hb; (try clear hb); (try clear hb2); (try clear hk); (try clear hi)))
        go_ret
        exact ⟨er_, hb_ HB⟩
       ·rw [if_neg c31] at H
        have c31b0 : (t131.toList == ([] : List UInt8)) = false := beq_eq_false_iff_ne.mpr c31
        have c31b1 : (t131.toList != ([] : List UInt8)) = true := bne_iff_ne.mpr c31
        exact nf_ H hr_
/-- THE ONE PURE STATEMENT of calamuslaw13_KeyBack: yours. -/
def calamuslaw13_KeyBack.Pure : Prop := ∀ (a0 : ByteArray) (a1 : ByteArray), a0.size ≤ 140737488351232 → a1.size ≤ 140737488351232 → ∃ k, calamuslaw13_KeyBack.f k a0 a1 = some true
theorem calamuslaw13_KeyBack.walk (P : calamuslaw13_KeyBack.Pure) (a0 : ByteArray) (a1 : ByteArray) (w : World) (w0 : a0.size ≤ 140737488351232) (w1 : a1.size ≤ 140737488351232) :
  Calls Try.prog 12 #[.string a0, .string a1] w fun e w' => e = .returned (.bool true) ∧ Below w.heap.size w w' := by
 obtain ⟨k, h⟩ := P a0 a1 w0 w1
 refine (calamuslaw13_KeyBack.calls k a0 a1 true w h).mono ?_
 rintro e w' ⟨rfl, hd⟩
 exact ⟨rfl, hd⟩

end Go.Proofs.Ytealbonfaebikaa.PKeyBack
