/- Of the law calamus/calamuslaw13.KeyTexts: each function as a plain Lean function, with a proof that the call comes to it; the row. By wip/tpl/own_print.py. Conditions: none but the row's own. -/
import Derived.Test.YtealbonfaebikaaOKeyTextsx0
import Derived.Test.YtealbonfaebikaaOKeyTextsx1
namespace Go.Proofs.Ytealbonfaebikaa.PKeyTexts
open Go.RowKit Go.Proofs.YtealbonfaebikaaW.PrintWords Go.Proofs.YtealbonfaebikaaW.PrintLast Go.Proofs.YtealbonfaebikaaW.PrintMore
attribute [local go_sem] max2_int min2_int max_two min_two max_three min_three max_four min_four   -- for this text's walks alone
set_option linter.unusedVariables false
set_option linter.unusedSimpArgs false

/-! ### key_Sign: function 39 -/
def key_Sign.f (k : Nat) (a0 : ByteArray) : Option (Bool) := (utf_Count.f k a0).bind fun t110 => (if t110 = 1 then (if (a0.size : Int) > 1 then (some true) else (if 0 < (a0.size : Int) then (if (bt a0 0) ≥ 32 then (some (decide ((bt a0 0) < 127))) else (some false)) else (none))) else (some false))
theorem key_Sign.mono : ∀ a0 k, LeO (key_Sign.f k a0) (key_Sign.f (k + 1) a0) := by
 intro a0 k
 unfold key_Sign.f
 repeat' first
   | (with_reducible exact utf_Count.mono _ _)
   | (with_reducible exact LeO.refl _)
   | (with_reducible exact LeO.none _)
   | (with_reducible refine LeO.ite ?_ ?_)
   | (with_reducible refine LeO.bind ?_ (fun _ => ?_))
   | exact utf_Count.mono _ _
   | exact LeO.none _
   | refine LeO.ite ?_ ?_
   | refine LeO.bind ?_ (fun _ => ?_)
set_option maxHeartbeats 8000000 in
set_option maxRecDepth 100000 in
theorem key_Sign.calls (k : Nat) (a0 : ByteArray) (r : Bool) (w : World) (h : key_Sign.f k a0 = some r) :
  Calls Try.prog 39 #[.string a0] w fun e w' => e = .returned (.bool r) ∧ Below w.heap.size w w' := by
 have HB := Aside0.mk (Below.refl w.heap.size w)
 have H : ((utf_Count.f k a0).bind fun t110 => (if t110 = 1 then (if (a0.size : Int) > 1 then (some true) else (if 0 < (a0.size : Int) then (if (bt a0 0) ≥ 32 then (some (decide ((bt a0 0) < 127))) else (some false)) else (none))) else (some false))) = some r := h
 clear h
 replace H := Option.bind_eq_some_iff.mp H
 obtain ⟨t110, A20, H⟩ := H
 replace H : (if t110 = 1 then (if (a0.size : Int) > 1 then (some true) else (if 0 < (a0.size : Int) then (if (bt a0 0) ≥ 32 then (some (decide ((bt a0 0) < 127))) else (some false)) else (none))) else (some false)) = some r := H
 have A2 := Aside0.mk A20
 clear A20
 by_cases c3 : t110 = 1
 ·rw [if_pos c3] at H
  have c3b0 : (t110 == 1) = true := beq_iff_eq.mpr c3
  have c3b1 : (t110 != 1) = false := bne_eq_false_iff_eq.mpr c3
  clear c3
  by_cases c4 : (a0.size : Int) > 1
  ·rw [if_pos c4] at H
   have c4b0 : decide (1 < (a0.size : Int)) = true := decide_eq_true c4
   have c4b1 : decide (1 < a0.size) = true := decide_eq_true (by omega)
   clear c4
   obtain rfl := Option.some.inj H
   go_enter Try.func39, Try.ntmps39
   go_wp2_with (first | ((with_reducible refine gate_callee (f := 71) rfl ?_); refine ge_ (some 4) rfl rfl Try.func71 (by kernel_rfl) rfl #[.string a0] rfl (h := ?_); (with_reducible refine (utf_Count.calls k a0 t110 _ A2.out).mono ?_); rintro e w5 ⟨rfl, hb⟩; refine ⟨_, rfl, ?_⟩; replace HB := bs_ HB hb; (try clear hb); (try clear hb2); (try clear hk); (try clear hi)))
   go_ret
   exact ⟨er_, hb_ HB⟩
  ·rw [if_neg c4] at H
   have c4b0 : decide (1 < (a0.size : Int)) = false := decide_eq_false c4
   have c4b1 : decide (1 < a0.size) = false := decide_eq_false (by omega)
   clear c4
   by_cases c6 : 0 < (a0.size : Int)
   ·rw [if_pos c6] at H
    have c6b0 : decide (0 < (a0.size : Int)) = true := decide_eq_true c6
    have c6b1 : decide (0 < a0.size) = true := decide_eq_true (by omega)
    clear c6
    by_cases c8 : (bt a0 0) ≥ 32
    ·rw [if_pos c8] at H
     have c8b0 : decide (32 ≤ (bt a0 0)) = true := decide_eq_true c8
     clear c8
     obtain rfl := Option.some.inj H
     go_enter Try.func39, Try.ntmps39
     go_wp2_with (first | ((with_reducible refine gate_callee (f := 71) rfl ?_); refine ge_ (some 4) rfl rfl Try.func71 (by kernel_rfl) rfl #[.string a0] rfl (h := ?_); (with_reducible refine (utf_Count.calls k a0 t110 _ A2.out).mono ?_); rintro e w10 ⟨rfl, hb⟩; refine ⟨_, rfl, ?_⟩; replace HB := bs_ HB hb; (try clear hb); (try clear hb2); (try clear hk); (try clear hi); have p7 : 0 ≤ (0 : Int) := (by omega); have q7 : 0 < a0.size := (by have : (0 : Int) < (a0.size : Int) := of_decide_eq_true as_; omega); have hx7 : ∀ h : 0 < a0.size, ((a0[0]'h).toNat : Int) = bt a0 0 := bt_at a0 0; clear p7; have qi7 : (0 < (a0.size : Int)) = True := eq_true (of_decide_eq_true as_); replace q7 := eq_true q7; have p9 : 0 ≤ (0 : Int) := (by omega); have q9 : 0 < a0.size := (by have : (0 : Int) < (a0.size : Int) := of_decide_eq_true as_; omega); have hx9 : ∀ h : 0 < a0.size, ((a0[0]'h).toNat : Int) = bt a0 0 := bt_at a0 0; clear p9; have qi9 : (0 < (a0.size : Int)) = True := eq_true (of_decide_eq_true as_); replace q9 := eq_true q9))
     go_ret
     exact ⟨er_, hb_ HB⟩
    ·rw [if_neg c8] at H
     have c8b0 : decide (32 ≤ (bt a0 0)) = false := decide_eq_false c8
     clear c8
     obtain rfl := Option.some.inj H
     go_enter Try.func39, Try.ntmps39
     go_wp2_with (first | ((with_reducible refine gate_callee (f := 71) rfl ?_); refine ge_ (some 4) rfl rfl Try.func71 (by kernel_rfl) rfl #[.string a0] rfl (h := ?_); (with_reducible refine (utf_Count.calls k a0 t110 _ A2.out).mono ?_); rintro e w11 ⟨rfl, hb⟩; refine ⟨_, rfl, ?_⟩; replace HB := bs_ HB hb; (try clear hb); (try clear hb2); (try clear hk); (try clear hi); have p7 : 0 ≤ (0 : Int) := (by omega); have q7 : 0 < a0.size := (by have : (0 : Int) < (a0.size : Int) := of_decide_eq_true as_; omega); have hx7 : ∀ h : 0 < a0.size, ((a0[0]'h).toNat : Int) = bt a0 0 := bt_at a0 0; clear p7; have qi7 : (0 < (a0.size : Int)) = True := eq_true (of_decide_eq_true as_); replace q7 := eq_true q7))
     go_ret
     exact ⟨er_, hb_ HB⟩
   ·rw [if_neg c6] at H
    exact absurd H (by simp)
 ·rw [if_neg c3] at H
  have c3b0 : (t110 == 1) = false := beq_eq_false_iff_ne.mpr c3
  have c3b1 : (t110 != 1) = true := bne_iff_ne.mpr c3
  obtain rfl := Option.some.inj H
  go_enter Try.func39, Try.ntmps39
  go_wp2_with (first | ((with_reducible refine gate_callee (f := 71) rfl ?_); refine ge_ (some 4) rfl rfl Try.func71 (by kernel_rfl) rfl #[.string a0] rfl (h := ?_); (with_reducible refine (utf_Count.calls k a0 t110 _ A2.out).mono ?_); rintro e w12 ⟨rfl, hb⟩; refine ⟨_, rfl, ?_⟩; replace HB := bs_ HB hb; (try clear hb); (try clear hb2); (try clear hk); (try clear hi)))
  go_ret
  exact ⟨er_, hb_ HB⟩

/-! ### key_Right: function 37, by hand (key.Right.lean) -/
/-- The names, key by key. -/
def nmT : List (ByteArray × ByteArray) := [(⟨#[8]⟩, ⟨#[60, 66, 97, 99, 107, 62]⟩), (⟨#[9]⟩, ⟨#[60, 84, 97, 98, 62]⟩), (⟨#[13]⟩, ⟨#[60, 69, 110, 116, 101, 114, 62]⟩), (⟨#[18]⟩, ⟨#[60, 82, 101, 100, 111, 62]⟩), (⟨#[21]⟩, ⟨#[60, 87, 105, 112, 101, 62]⟩), (⟨#[23]⟩, ⟨#[60, 67, 104, 111, 112, 62]⟩), (⟨#[27]⟩, ⟨#[60, 69, 115, 99, 62]⟩), (⟨#[60]⟩, ⟨#[60, 108, 116, 62]⟩)]
def nmE : Array MapEntry := #[{ key := .string ⟨#[8]⟩, val := .string ⟨#[60, 66, 97, 99, 107, 62]⟩, born := 0 }, { key := .string ⟨#[9]⟩, val := .string ⟨#[60, 84, 97, 98, 62]⟩, born := 1 }, { key := .string ⟨#[13]⟩, val := .string ⟨#[60, 69, 110, 116, 101, 114, 62]⟩, born := 2 }, { key := .string ⟨#[18]⟩, val := .string ⟨#[60, 82, 101, 100, 111, 62]⟩, born := 3 }, { key := .string ⟨#[21]⟩, val := .string ⟨#[60, 87, 105, 112, 101, 62]⟩, born := 4 }, { key := .string ⟨#[23]⟩, val := .string ⟨#[60, 67, 104, 111, 112, 62]⟩, born := 5 }, { key := .string ⟨#[27]⟩, val := .string ⟨#[60, 69, 115, 99, 62]⟩, born := 6 }, { key := .string ⟨#[60]⟩, val := .string ⟨#[60, 108, 116, 62]⟩, born := 7 }]
def nmV (s : ByteArray) : Option ByteArray := (nmT.find? fun p => s == p.1).map (·.2)
theorem alloc_put (w : World) (o o' : Obj) : { w.alloc o with heap := (w.alloc o).heap.setIfInBounds w.heap.size o' } = w.alloc o' := by
 show ({ heap := (w.heap.push o).setIfInBounds w.heap.size o', tape := w.tape, drawn := w.drawn, os := w.os, output := w.output } : World) = { heap := w.heap.push o', tape := w.tape, drawn := w.drawn, os := w.os, output := w.output }
 congr 1
 apply Array.ext
 ·simp
 ·intro i h1 h2
  simp at h1 h2
  rw [Array.getElem_setIfInBounds (by simpa using h1), Array.getElem_push, Array.getElem_push]
  by_cases h : w.heap.size = i
  ·simp [h]
  ·rw [if_neg h, dif_pos (by omega), dif_pos (by omega)]
theorem run_insert_new {P : Program} (w : World) (mty kt et clock : Nat) (es : Array MapEntry) (s : ByteArray) (val : Value) (hm : P.underlying mty = some (.map kt et)) (hk : P.underlying kt = some .string)
  (hf : Instr.findNow .string (.string s) es.toList 0 = some none) :
  (Instr.mapUpdate mty (.map (some w.heap.size)) (.string s) val).run P (w.alloc (.map es clock)) = .ok () (w.alloc (.map (es.push { key := .string s, val := val, born := clock }) (clock + 1))) := by
 have hb := (MapKept.heap_alloc w (.map es clock)).1
 have hc : (Instr.checkKey false 10000 kt (.string s)).run P (w.alloc (.map es clock)) = .ok () (w.alloc (.map es clock)) := MapKept.run_checkKey (k := .string s) hk (by simp [MapKept.IsKey]) false 9999
 simp [Instr.mapUpdate, run_underlying hm, MapKept.run_getObj_map hb, hc, MapKept.run_findKey hk hf, MapKept.run_setObj_map _ hb, Result.andThen]
 exact alloc_put w _ _
theorem findNow_names (s : ByteArray) : ∃ a, Instr.findNow .string (.string s) nmE.toList 0 = some a ∧ (match a with | some (_, v) => (v, true) | none => (Value.string ⟨#[]⟩, false)) = (Value.string ((nmV s).getD ⟨#[]⟩), (nmV s).isSome) := by
 simp only [nmE, nmV, nmT, List.find?, Instr.findNow, Instr.sameNow]
 generalize (s == (⟨#[8]⟩ : ByteArray)) = b8
 generalize (s == (⟨#[9]⟩ : ByteArray)) = b9
 generalize (s == (⟨#[13]⟩ : ByteArray)) = b13
 generalize (s == (⟨#[18]⟩ : ByteArray)) = b18
 generalize (s == (⟨#[21]⟩ : ByteArray)) = b21
 generalize (s == (⟨#[23]⟩ : ByteArray)) = b23
 generalize (s == (⟨#[27]⟩ : ByteArray)) = b27
 generalize (s == (⟨#[60]⟩ : ByteArray)) = b60
 cases b8
 case true => exact ⟨_, rfl, rfl⟩
 cases b9
 case true => exact ⟨_, rfl, rfl⟩
 cases b13
 case true => exact ⟨_, rfl, rfl⟩
 cases b18
 case true => exact ⟨_, rfl, rfl⟩
 cases b21
 case true => exact ⟨_, rfl, rfl⟩
 cases b23
 case true => exact ⟨_, rfl, rfl⟩
 cases b27
 case true => exact ⟨_, rfl, rfl⟩
 cases b60
 case true => exact ⟨_, rfl, rfl⟩
 exact ⟨_, rfl, rfl⟩
theorem run_names (s : ByteArray) (W : World) (r : Nat) (h : W.heap[r]? = some (.map nmE 8)) (hm : Try.prog.underlying 109 = some (.map 9 9)) (hk : Try.prog.underlying 9 = some .string) (hz : (zeroValue 9).run Try.prog W = .ok (.string ⟨#[]⟩) W) :
  (Instr.lookup 109 (.map (some r)) (.string s) true).run Try.prog W = .ok (.tuple #[.string ((nmV s).getD ⟨#[]⟩), .bool (nmV s).isSome]) W := by
 obtain ⟨a, ha, hv⟩ := findNow_names s
 have hc : ∀ e, (Instr.checkKey e 10000 9 (.string s)).run Try.prog W = .ok () W := fun e => MapKept.run_checkKey (k := .string s) hk (by simp [MapKept.IsKey]) e 9999
 have hf := MapKept.run_findKey (w := W) hk ha
 cases a with
 | none =>
  simp only [Prod.mk.injEq] at hv
  simp [Instr.lookup, run_underlying hm, MapKept.run_getObj_map h, hc, hf, hz, Result.andThen, ← hv.1, ← hv.2]
 | some x =>
  obtain ⟨i, v⟩ := x
  simp only [Prod.mk.injEq] at hv
  simp [Instr.lookup, run_underlying hm, MapKept.run_getObj_map h, hc, hf, hz, Result.andThen, ← hv.1, ← hv.2]
theorem zero_str (W : World) : (zeroValue 9).run Try.prog W = .ok (.string ⟨#[]⟩) W := by kernel_rfl
set_option maxHeartbeats 1000000 in
set_option maxRecDepth 100000 in
theorem key_names.calls (w : World) : Calls Try.prog 70 #[] w fun e w' => e = .returned (.map (some w.heap.size)) ∧ w' = w.alloc (.map nmE 8) := by
 have hmm := @run_makeMap Try.prog
 have hm : Try.prog.underlying 109 = some (.map 9 9) := by kernel_rfl
 have hk : Try.prog.underlying 9 = some .string := by kernel_rfl
 have h0 : (Instr.mapUpdate 109 (.map (some w.heap.size)) (.string ⟨#[8]⟩) (.string ⟨#[60, 66, 97, 99, 107, 62]⟩)).run Try.prog (w.alloc (.map #[] 0)) = .ok () (w.alloc (.map #[{ key := .string ⟨#[8]⟩, val := .string ⟨#[60, 66, 97, 99, 107, 62]⟩, born := 0 }] 1)) := run_insert_new (P := Try.prog) w 109 9 9 0 #[] ⟨#[8]⟩ (.string ⟨#[60, 66, 97, 99, 107, 62]⟩) hm hk (by rfl)
 have h1 : (Instr.mapUpdate 109 (.map (some w.heap.size)) (.string ⟨#[9]⟩) (.string ⟨#[60, 84, 97, 98, 62]⟩)).run Try.prog (w.alloc (.map #[{ key := .string ⟨#[8]⟩, val := .string ⟨#[60, 66, 97, 99, 107, 62]⟩, born := 0 }] 1)) = .ok () (w.alloc (.map #[{ key := .string ⟨#[8]⟩, val := .string ⟨#[60, 66, 97, 99, 107, 62]⟩, born := 0 }, { key := .string ⟨#[9]⟩, val := .string ⟨#[60, 84, 97, 98, 62]⟩, born := 1 }] 2)) := run_insert_new (P := Try.prog) w 109 9 9 1 #[{ key := .string ⟨#[8]⟩, val := .string ⟨#[60, 66, 97, 99, 107, 62]⟩, born := 0 }] ⟨#[9]⟩ (.string ⟨#[60, 84, 97, 98, 62]⟩) hm hk (by rfl)
 have h2 : (Instr.mapUpdate 109 (.map (some w.heap.size)) (.string ⟨#[13]⟩) (.string ⟨#[60, 69, 110, 116, 101, 114, 62]⟩)).run Try.prog (w.alloc (.map #[{ key := .string ⟨#[8]⟩, val := .string ⟨#[60, 66, 97, 99, 107, 62]⟩, born := 0 }, { key := .string ⟨#[9]⟩, val := .string ⟨#[60, 84, 97, 98, 62]⟩, born := 1 }] 2)) = .ok () (w.alloc (.map #[{ key := .string ⟨#[8]⟩, val := .string ⟨#[60, 66, 97, 99, 107, 62]⟩, born := 0 }, { key := .string ⟨#[9]⟩, val := .string ⟨#[60, 84, 97, 98, 62]⟩, born := 1 }, { key := .string ⟨#[13]⟩, val := .string ⟨#[60, 69, 110, 116, 101, 114, 62]⟩, born := 2 }] 3)) := run_insert_new (P := Try.prog) w 109 9 9 2 #[{ key := .string ⟨#[8]⟩, val := .string ⟨#[60, 66, 97, 99, 107, 62]⟩, born := 0 }, { key := .string ⟨#[9]⟩, val := .string ⟨#[60, 84, 97, 98, 62]⟩, born := 1 }] ⟨#[13]⟩ (.string ⟨#[60, 69, 110, 116, 101, 114, 62]⟩) hm hk (by rfl)
 have h3 : (Instr.mapUpdate 109 (.map (some w.heap.size)) (.string ⟨#[18]⟩) (.string ⟨#[60, 82, 101, 100, 111, 62]⟩)).run Try.prog (w.alloc (.map #[{ key := .string ⟨#[8]⟩, val := .string ⟨#[60, 66, 97, 99, 107, 62]⟩, born := 0 }, { key := .string ⟨#[9]⟩, val := .string ⟨#[60, 84, 97, 98, 62]⟩, born := 1 }, { key := .string ⟨#[13]⟩, val := .string ⟨#[60, 69, 110, 116, 101, 114, 62]⟩, born := 2 }] 3)) = .ok () (w.alloc (.map #[{ key := .string ⟨#[8]⟩, val := .string ⟨#[60, 66, 97, 99, 107, 62]⟩, born := 0 }, { key := .string ⟨#[9]⟩, val := .string ⟨#[60, 84, 97, 98, 62]⟩, born := 1 }, { key := .string ⟨#[13]⟩, val := .string ⟨#[60, 69, 110, 116, 101, 114, 62]⟩, born := 2 }, { key := .string ⟨#[18]⟩, val := .string ⟨#[60, 82, 101, 100, 111, 62]⟩, born := 3 }] 4)) := run_insert_new (P := Try.prog) w 109 9 9 3 #[{ key := .string ⟨#[8]⟩, val := .string ⟨#[60, 66, 97, 99, 107, 62]⟩, born := 0 }, { key := .string ⟨#[9]⟩, val := .string ⟨#[60, 84, 97, 98, 62]⟩, born := 1 }, { key := .string ⟨#[13]⟩, val := .string ⟨#[60, 69, 110, 116, 101, 114, 62]⟩, born := 2 }] ⟨#[18]⟩ (.string ⟨#[60, 82, 101, 100, 111, 62]⟩) hm hk (by rfl)
 have h4 : (Instr.mapUpdate 109 (.map (some w.heap.size)) (.string ⟨#[21]⟩) (.string ⟨#[60, 87, 105, 112, 101, 62]⟩)).run Try.prog (w.alloc (.map #[{ key := .string ⟨#[8]⟩, val := .string ⟨#[60, 66, 97, 99, 107, 62]⟩, born := 0 }, { key := .string ⟨#[9]⟩, val := .string ⟨#[60, 84, 97, 98, 62]⟩, born := 1 }, { key := .string ⟨#[13]⟩, val := .string ⟨#[60, 69, 110, 116, 101, 114, 62]⟩, born := 2 }, { key := .string ⟨#[18]⟩, val := .string ⟨#[60, 82, 101, 100, 111, 62]⟩, born := 3 }] 4)) = .ok () (w.alloc (.map #[{ key := .string ⟨#[8]⟩, val := .string ⟨#[60, 66, 97, 99, 107, 62]⟩, born := 0 }, { key := .string ⟨#[9]⟩, val := .string ⟨#[60, 84, 97, 98, 62]⟩, born := 1 }, { key := .string ⟨#[13]⟩, val := .string ⟨#[60, 69, 110, 116, 101, 114, 62]⟩, born := 2 }, { key := .string ⟨#[18]⟩, val := .string ⟨#[60, 82, 101, 100, 111, 62]⟩, born := 3 }, { key := .string ⟨#[21]⟩, val := .string ⟨#[60, 87, 105, 112, 101, 62]⟩, born := 4 }] 5)) := run_insert_new (P := Try.prog) w 109 9 9 4 #[{ key := .string ⟨#[8]⟩, val := .string ⟨#[60, 66, 97, 99, 107, 62]⟩, born := 0 }, { key := .string ⟨#[9]⟩, val := .string ⟨#[60, 84, 97, 98, 62]⟩, born := 1 }, { key := .string ⟨#[13]⟩, val := .string ⟨#[60, 69, 110, 116, 101, 114, 62]⟩, born := 2 }, { key := .string ⟨#[18]⟩, val := .string ⟨#[60, 82, 101, 100, 111, 62]⟩, born := 3 }] ⟨#[21]⟩ (.string ⟨#[60, 87, 105, 112, 101, 62]⟩) hm hk (by rfl)
 have h5 : (Instr.mapUpdate 109 (.map (some w.heap.size)) (.string ⟨#[23]⟩) (.string ⟨#[60, 67, 104, 111, 112, 62]⟩)).run Try.prog (w.alloc (.map #[{ key := .string ⟨#[8]⟩, val := .string ⟨#[60, 66, 97, 99, 107, 62]⟩, born := 0 }, { key := .string ⟨#[9]⟩, val := .string ⟨#[60, 84, 97, 98, 62]⟩, born := 1 }, { key := .string ⟨#[13]⟩, val := .string ⟨#[60, 69, 110, 116, 101, 114, 62]⟩, born := 2 }, { key := .string ⟨#[18]⟩, val := .string ⟨#[60, 82, 101, 100, 111, 62]⟩, born := 3 }, { key := .string ⟨#[21]⟩, val := .string ⟨#[60, 87, 105, 112, 101, 62]⟩, born := 4 }] 5)) = .ok () (w.alloc (.map #[{ key := .string ⟨#[8]⟩, val := .string ⟨#[60, 66, 97, 99, 107, 62]⟩, born := 0 }, { key := .string ⟨#[9]⟩, val := .string ⟨#[60, 84, 97, 98, 62]⟩, born := 1 }, { key := .string ⟨#[13]⟩, val := .string ⟨#[60, 69, 110, 116, 101, 114, 62]⟩, born := 2 }, { key := .string ⟨#[18]⟩, val := .string ⟨#[60, 82, 101, 100, 111, 62]⟩, born := 3 }, { key := .string ⟨#[21]⟩, val := .string ⟨#[60, 87, 105, 112, 101, 62]⟩, born := 4 }, { key := .string ⟨#[23]⟩, val := .string ⟨#[60, 67, 104, 111, 112, 62]⟩, born := 5 }] 6)) := run_insert_new (P := Try.prog) w 109 9 9 5 #[{ key := .string ⟨#[8]⟩, val := .string ⟨#[60, 66, 97, 99, 107, 62]⟩, born := 0 }, { key := .string ⟨#[9]⟩, val := .string ⟨#[60, 84, 97, 98, 62]⟩, born := 1 }, { key := .string ⟨#[13]⟩, val := .string ⟨#[60, 69, 110, 116, 101, 114, 62]⟩, born := 2 }, { key := .string ⟨#[18]⟩, val := .string ⟨#[60, 82, 101, 100, 111, 62]⟩, born := 3 }, { key := .string ⟨#[21]⟩, val := .string ⟨#[60, 87, 105, 112, 101, 62]⟩, born := 4 }] ⟨#[23]⟩ (.string ⟨#[60, 67, 104, 111, 112, 62]⟩) hm hk (by rfl)
 have h6 : (Instr.mapUpdate 109 (.map (some w.heap.size)) (.string ⟨#[27]⟩) (.string ⟨#[60, 69, 115, 99, 62]⟩)).run Try.prog (w.alloc (.map #[{ key := .string ⟨#[8]⟩, val := .string ⟨#[60, 66, 97, 99, 107, 62]⟩, born := 0 }, { key := .string ⟨#[9]⟩, val := .string ⟨#[60, 84, 97, 98, 62]⟩, born := 1 }, { key := .string ⟨#[13]⟩, val := .string ⟨#[60, 69, 110, 116, 101, 114, 62]⟩, born := 2 }, { key := .string ⟨#[18]⟩, val := .string ⟨#[60, 82, 101, 100, 111, 62]⟩, born := 3 }, { key := .string ⟨#[21]⟩, val := .string ⟨#[60, 87, 105, 112, 101, 62]⟩, born := 4 }, { key := .string ⟨#[23]⟩, val := .string ⟨#[60, 67, 104, 111, 112, 62]⟩, born := 5 }] 6)) = .ok () (w.alloc (.map #[{ key := .string ⟨#[8]⟩, val := .string ⟨#[60, 66, 97, 99, 107, 62]⟩, born := 0 }, { key := .string ⟨#[9]⟩, val := .string ⟨#[60, 84, 97, 98, 62]⟩, born := 1 }, { key := .string ⟨#[13]⟩, val := .string ⟨#[60, 69, 110, 116, 101, 114, 62]⟩, born := 2 }, { key := .string ⟨#[18]⟩, val := .string ⟨#[60, 82, 101, 100, 111, 62]⟩, born := 3 }, { key := .string ⟨#[21]⟩, val := .string ⟨#[60, 87, 105, 112, 101, 62]⟩, born := 4 }, { key := .string ⟨#[23]⟩, val := .string ⟨#[60, 67, 104, 111, 112, 62]⟩, born := 5 }, { key := .string ⟨#[27]⟩, val := .string ⟨#[60, 69, 115, 99, 62]⟩, born := 6 }] 7)) := run_insert_new (P := Try.prog) w 109 9 9 6 #[{ key := .string ⟨#[8]⟩, val := .string ⟨#[60, 66, 97, 99, 107, 62]⟩, born := 0 }, { key := .string ⟨#[9]⟩, val := .string ⟨#[60, 84, 97, 98, 62]⟩, born := 1 }, { key := .string ⟨#[13]⟩, val := .string ⟨#[60, 69, 110, 116, 101, 114, 62]⟩, born := 2 }, { key := .string ⟨#[18]⟩, val := .string ⟨#[60, 82, 101, 100, 111, 62]⟩, born := 3 }, { key := .string ⟨#[21]⟩, val := .string ⟨#[60, 87, 105, 112, 101, 62]⟩, born := 4 }, { key := .string ⟨#[23]⟩, val := .string ⟨#[60, 67, 104, 111, 112, 62]⟩, born := 5 }] ⟨#[27]⟩ (.string ⟨#[60, 69, 115, 99, 62]⟩) hm hk (by rfl)
 have h7 : (Instr.mapUpdate 109 (.map (some w.heap.size)) (.string ⟨#[60]⟩) (.string ⟨#[60, 108, 116, 62]⟩)).run Try.prog (w.alloc (.map #[{ key := .string ⟨#[8]⟩, val := .string ⟨#[60, 66, 97, 99, 107, 62]⟩, born := 0 }, { key := .string ⟨#[9]⟩, val := .string ⟨#[60, 84, 97, 98, 62]⟩, born := 1 }, { key := .string ⟨#[13]⟩, val := .string ⟨#[60, 69, 110, 116, 101, 114, 62]⟩, born := 2 }, { key := .string ⟨#[18]⟩, val := .string ⟨#[60, 82, 101, 100, 111, 62]⟩, born := 3 }, { key := .string ⟨#[21]⟩, val := .string ⟨#[60, 87, 105, 112, 101, 62]⟩, born := 4 }, { key := .string ⟨#[23]⟩, val := .string ⟨#[60, 67, 104, 111, 112, 62]⟩, born := 5 }, { key := .string ⟨#[27]⟩, val := .string ⟨#[60, 69, 115, 99, 62]⟩, born := 6 }] 7)) = .ok () (w.alloc (.map #[{ key := .string ⟨#[8]⟩, val := .string ⟨#[60, 66, 97, 99, 107, 62]⟩, born := 0 }, { key := .string ⟨#[9]⟩, val := .string ⟨#[60, 84, 97, 98, 62]⟩, born := 1 }, { key := .string ⟨#[13]⟩, val := .string ⟨#[60, 69, 110, 116, 101, 114, 62]⟩, born := 2 }, { key := .string ⟨#[18]⟩, val := .string ⟨#[60, 82, 101, 100, 111, 62]⟩, born := 3 }, { key := .string ⟨#[21]⟩, val := .string ⟨#[60, 87, 105, 112, 101, 62]⟩, born := 4 }, { key := .string ⟨#[23]⟩, val := .string ⟨#[60, 67, 104, 111, 112, 62]⟩, born := 5 }, { key := .string ⟨#[27]⟩, val := .string ⟨#[60, 69, 115, 99, 62]⟩, born := 6 }, { key := .string ⟨#[60]⟩, val := .string ⟨#[60, 108, 116, 62]⟩, born := 7 }] 8)) := run_insert_new (P := Try.prog) w 109 9 9 7 #[{ key := .string ⟨#[8]⟩, val := .string ⟨#[60, 66, 97, 99, 107, 62]⟩, born := 0 }, { key := .string ⟨#[9]⟩, val := .string ⟨#[60, 84, 97, 98, 62]⟩, born := 1 }, { key := .string ⟨#[13]⟩, val := .string ⟨#[60, 69, 110, 116, 101, 114, 62]⟩, born := 2 }, { key := .string ⟨#[18]⟩, val := .string ⟨#[60, 82, 101, 100, 111, 62]⟩, born := 3 }, { key := .string ⟨#[21]⟩, val := .string ⟨#[60, 87, 105, 112, 101, 62]⟩, born := 4 }, { key := .string ⟨#[23]⟩, val := .string ⟨#[60, 67, 104, 111, 112, 62]⟩, born := 5 }, { key := .string ⟨#[27]⟩, val := .string ⟨#[60, 69, 115, 99, 62]⟩, born := 6 }] ⟨#[60]⟩ (.string ⟨#[60, 108, 116, 62]⟩) hm hk (by rfl)
 go_enter Try.func70, Try.ntmps70
 go_wp2
 go_ret
 exact ⟨rfl, rfl⟩

def key_Right.f (k : Nat) (a0 : ByteArray) : Option Bool := if (nmV a0).isSome = true then some true else ((key_Sign.f k a0).bind fun t1 => some t1)
theorem key_Right.mono : ∀ a0 k, LeO (key_Right.f k a0) (key_Right.f (k + 1) a0) := by
 intro a0 k
 unfold key_Right.f
 refine LeO.ite (LeO.refl _) (LeO.bind (key_Sign.mono _ _) (fun _ => LeO.refl _))
set_option maxHeartbeats 1000000 in
set_option maxRecDepth 100000 in
theorem key_Right.calls (k : Nat) (a0 : ByteArray) (r : Bool) (w : World) (h : key_Right.f k a0 = some r) :
  Calls Try.prog 37 #[.string a0] w fun e w' => e = .returned (.bool r) ∧ Below w.heap.size w w' := by
 have hL := run_names a0 (w.alloc (.map nmE 8)) w.heap.size (MapKept.heap_alloc w (.map nmE 8)).1 (by kernel_rfl) (by kernel_rfl) (zero_str _)
 have HB := below_alloc (Below.refl w.heap.size w) (.map nmE 8)
 unfold key_Right.f at h
 cases hv : nmV a0 with
 | some x =>
  rw [hv] at h hL
  obtain rfl : true = r := Option.some.inj h
  have hL' : (Instr.lookup 109 (.map (some w.heap.size)) (.string a0) true).run Try.prog (w.alloc (.map nmE 8)) = .ok (.tuple #[.string x, .bool true]) (w.alloc (.map nmE 8)) := hL
  clear hL
  go_enter Try.func37, Try.ntmps37
  go_wp2_with ((with_reducible refine gate_callee (f := 70) rfl ?_); refine ge_ (some 6) rfl rfl Try.func70 (by kernel_rfl) rfl #[] rfl (h := ?_); (with_reducible refine (key_names.calls _).mono ?_); rintro e w2 ⟨rfl, rfl⟩; refine ⟨_, rfl, ?_⟩)
  go_ret
  exact ⟨rfl, HB⟩
 | none =>
  rw [hv] at h hL
  obtain ⟨t1, A1, H⟩ := Option.bind_eq_some_iff.mp h
  obtain rfl : t1 = r := Option.some.inj H
  have hL' : (Instr.lookup 109 (.map (some w.heap.size)) (.string a0) true).run Try.prog (w.alloc (.map nmE 8)) = .ok (.tuple #[.string ⟨#[]⟩, .bool false]) (w.alloc (.map nmE 8)) := hL
  clear hL
  go_enter Try.func37, Try.ntmps37
  go_wp2_with (first | ((with_reducible refine gate_callee (f := 70) rfl ?_); refine ge_ (some 6) rfl rfl Try.func70 (by kernel_rfl) rfl #[] rfl (h := ?_); (with_reducible refine (key_names.calls _).mono ?_); rintro e w2 ⟨rfl, rfl⟩; refine ⟨_, rfl, ?_⟩) | (go_at_call 39; (with_reducible refine (key_Sign.calls k a0 t1 _ A1).mono ?_); rintro e w3 ⟨rfl, hb⟩))
  go_ret
  exact ⟨rfl, below_step HB hb⟩


/-! ### key_Name: function 41, by hand (key.Name.lean) -/
def key_Name.f (k : Nat) (a0 : ByteArray) : Option ByteArray := if (nmV a0).isSome = true then some ((nmV a0).getD ⟨#[]⟩) else ((key_Sign.f k a0).bind fun t1 => if t1 = true then some a0 else some (⟨#[]⟩ : ByteArray))
theorem key_Name.mono : ∀ a0 k, LeO (key_Name.f k a0) (key_Name.f (k + 1) a0) := by
 intro a0 k
 unfold key_Name.f
 refine LeO.ite (LeO.refl _) (LeO.bind (key_Sign.mono _ _) (fun _ => LeO.refl _))
set_option maxHeartbeats 1000000 in
set_option maxRecDepth 100000 in
theorem key_Name.calls (k : Nat) (a0 : ByteArray) (r : ByteArray) (w : World) (h : key_Name.f k a0 = some r) :
  Calls Try.prog 41 #[.string a0] w fun e w' => e = .returned (.string r) ∧ Below w.heap.size w w' := by
 have hL := run_names a0 (w.alloc (.map nmE 8)) w.heap.size (MapKept.heap_alloc w (.map nmE 8)).1 (by kernel_rfl) (by kernel_rfl) (zero_str _)
 have HB := below_alloc (Below.refl w.heap.size w) (.map nmE 8)
 unfold key_Name.f at h
 cases hv : nmV a0 with
 | some x =>
  rw [hv] at h hL
  obtain rfl : x = r := Option.some.inj h
  have hL' : (Instr.lookup 109 (.map (some w.heap.size)) (.string a0) true).run Try.prog (w.alloc (.map nmE 8)) = .ok (.tuple #[.string x, .bool true]) (w.alloc (.map nmE 8)) := hL
  clear hL
  go_enter Try.func41, Try.ntmps41
  go_wp2_with ((with_reducible refine gate_callee (f := 70) rfl ?_); refine ge_ (some 6) rfl rfl Try.func70 (by kernel_rfl) rfl #[] rfl (h := ?_); (with_reducible refine (key_names.calls _).mono ?_); rintro e w2 ⟨rfl, rfl⟩; refine ⟨_, rfl, ?_⟩)
  go_ret
  exact ⟨rfl, HB⟩
 | none =>
  rw [hv] at h hL
  obtain ⟨t1, A1, H⟩ := Option.bind_eq_some_iff.mp h
  have hL' : (Instr.lookup 109 (.map (some w.heap.size)) (.string a0) true).run Try.prog (w.alloc (.map nmE 8)) = .ok (.tuple #[.string ⟨#[]⟩, .bool false]) (w.alloc (.map nmE 8)) := hL
  clear hL
  cases t1
  case true =>
   obtain rfl : a0 = r := Option.some.inj H
   go_enter Try.func41, Try.ntmps41
   go_wp2_with (first | ((with_reducible refine gate_callee (f := 70) rfl ?_); refine ge_ (some 6) rfl rfl Try.func70 (by kernel_rfl) rfl #[] rfl (h := ?_); (with_reducible refine (key_names.calls _).mono ?_); rintro e w2 ⟨rfl, rfl⟩; refine ⟨_, rfl, ?_⟩) | ((with_reducible refine gate_callee (f := 39) rfl ?_); refine ge_ (some 14) rfl rfl Try.func39 (by kernel_rfl) rfl #[.string a0] rfl (h := ?_); (with_reducible refine (key_Sign.calls k a0 _ _ A1).mono ?_); rintro e w3 ⟨rfl, hb⟩; refine ⟨_, rfl, ?_⟩))
   go_ret
   exact ⟨rfl, below_step HB hb⟩
  case false =>
   obtain rfl : (⟨#[]⟩ : ByteArray) = r := Option.some.inj H
   go_enter Try.func41, Try.ntmps41
   go_wp2_with (first | ((with_reducible refine gate_callee (f := 70) rfl ?_); refine ge_ (some 6) rfl rfl Try.func70 (by kernel_rfl) rfl #[] rfl (h := ?_); (with_reducible refine (key_names.calls _).mono ?_); rintro e w2 ⟨rfl, rfl⟩; refine ⟨_, rfl, ?_⟩) | ((with_reducible refine gate_callee (f := 39) rfl ?_); refine ge_ (some 14) rfl rfl Try.func39 (by kernel_rfl) rfl #[.string a0] rfl (h := ?_); (with_reducible refine (key_Sign.calls k a0 _ _ A1).mono ?_); rintro e w3 ⟨rfl, hb⟩; refine ⟨_, rfl, ?_⟩))
   go_ret
   exact ⟨rfl, below_step HB hb⟩

/-! ### key_Split: function 45, by hand (key.Split.lean) -/
section
open Go.Lib
theorem info9' : (Try.prog.info? 9).map (fun i => (i.zero, i.size, i.bytes)) = some (some (.string ⟨#[]⟩), 1, 16) := by kernel_rfl
def key_Split.l0 : Nat → ByteArray → Nat → List ByteArray → Option (List ByteArray × Int)
 | 0, _, _, _ => none
 | k + 1, s, p, l => if p < s.size then ((key_Right.f k (Utf8.encode ((Utf8.decode s p).1 : Int))).bind fun t => if t = true then (if l.length < 8796093022208 then key_Split.l0 k s (p + (Utf8.decode s p).2) (l ++ [Utf8.encode ((Utf8.decode s p).1 : Int)]) else none) else some ([], 9)) else some (l, 0)
def key_Split.f (k : Nat) (a0 : ByteArray) : Option (List ByteArray × Int) := (utf_Valid.f k a0).bind fun t1 => if t1 = true then key_Split.l0 k a0 0 [] else some ([], 5)
theorem key_Split.mono_l : ∀ k, (∀ s p l, LeO (key_Split.l0 k s p l) (key_Split.l0 (k + 1) s p l))
 | 0 => fun _ _ _ r h => by simp [key_Split.l0] at h
 | k + 1 => by
  have ih := key_Split.mono_l k
  intro s p l
  unfold key_Split.l0
  refine LeO.ite (LeO.bind (key_Right.mono _ _) (fun _ => LeO.ite (LeO.ite (ih _ _ _) (LeO.none _)) (LeO.refl _))) (LeO.refl _)
theorem key_Split.mono : ∀ a0 k, LeO (key_Split.f k a0) (key_Split.f (k + 1) a0) := by
 intro a0 k
 unfold key_Split.f
 refine LeO.bind (utf_Valid.mono _ _) (fun _ => LeO.ite (key_Split.mono_l _ _ _ _) (LeO.refl _))
theorem R_iter {α : Type} {d : Kd α} {e : TypeId} {w : World} {base gi : Nat} {v : Value} {xs : List α} {s : ByteArray} {p p' : Nat} (h : Kd.R d e w base (fun _ => True) v xs) (hi : w.heap[gi]? = some (.stringIter s p)) :
  Kd.R d e (w.iterAt gi s p') base (fun _ => True) v xs := by
 have h1 : Kd.R d e w base (fun k => True ∧ k ≠ gi) v xs := Kd.R_mono (Kd.R_bound h) (fun k hk => ⟨trivial, by
  obtain ⟨_, _, _, q, hq, cells, hc⟩ := hk
  rintro rfl
  rw [hi] at hc
  simp at hc⟩)
 exact Kd.R_mono (Kd.R_keep h1 (g := gi) ⟨by rw [iterAt_size]; exact Nat.le_refl _, fun i _ hne _ => iterAt_other w gi i s p' hne⟩ (fun _ h => h.2)) (fun _ _ => trivial)
theorem R_iter_grown {α : Type} {d : Kd α} {e : TypeId} {w w1 : World} {base gi : Nat} {v : Value} {xs : List α} {s : ByteArray} {p : Nat} (h : Kd.R d e w base (fun _ => True) v xs) (hi : w.heap[gi]? = some (.stringIter s p)) (hg : w.grownBy w1 v.ownBlock) :
  w1.heap[gi]? = some (.stringIter s p) := by
 have h1 : Kd.R d e w base (fun k => True ∧ k ≠ gi) v xs := Kd.R_mono (Kd.R_bound h) (fun k hk => ⟨trivial, by
  obtain ⟨_, _, _, q, hq, cells, hc⟩ := hk
  rintro rfl
  rw [hi] at hc
  simp at hc⟩)
 exact blk_grown hi hg (fun e_ => (h1.1 gi e_.symm).2 rfl)
set_option maxHeartbeats 4000000 in
set_option maxRecDepth 100000 in
theorem key_Split.calls (k : Nat) (a0 : ByteArray) (r1 : List ByteArray) (r2 : Int) (w : World) (h : key_Split.f k a0 = some (r1, r2)) :
 Calls Try.prog 45 #[.string a0] w fun e w' => ∃ v0_ : Value, e = .returned (.tuple #[v0_, .int .i64 r2]) ∧ Kd.R Kd.string 9 w' w.heap.size (fun _ => True) v0_ r1 ∧ Below w.heap.size w w' := by
 unfold key_Split.f at h
 obtain ⟨t1, A1, H⟩ := Option.bind_eq_some_iff.mp h
 clear h
 cases t1
 case false =>
  obtain ⟨rfl, rfl⟩ : [] = r1 ∧ (5 : Int) = r2 := by simpa using H
  go_enter Try.func45, Try.ntmps45
  go_wp2_with ((with_reducible refine gate_callee (f := 74) rfl ?_); refine ge_ (some 9) rfl rfl Try.func74 (by kernel_rfl) rfl #[.string a0] rfl (h := ?_); (with_reducible refine (utf_Valid.calls k a0 _ _ A1).mono ?_); rintro e w2 ⟨rfl, hb⟩; refine ⟨_, rfl, ?_⟩; have HB := Aside0.mk (below_step (Below.refl w.heap.size w) hb); clear hb)
  go_ret2
  exact ⟨_, rfl, Kd.R_nil _ _ _ _ _, HB.out⟩
 case true =>
  have H' : key_Split.l0 k a0 0 [] = some (r1, r2) := H
  clear H
  go_enter Try.func45, Try.ntmps45
  go_wp2_with ((with_reducible refine gate_callee (f := 74) rfl ?_); refine ge_ (some 9) rfl rfl Try.func74 (by kernel_rfl) rfl #[.string a0] rfl (h := ?_); (with_reducible refine (utf_Valid.calls k a0 _ _ A1).mono ?_); rintro e w2 ⟨rfl, hb⟩; refine ⟨_, rfl, ?_⟩; have HB := Aside0.mk (below_step (Below.refl w.heap.size w) hb); clear hb)
  have HIT0 := Aside0.mk (World.iter_heap w2 a0 0)
  have HI0 := Aside0.mk (below_size HB.out)
  go_loopg [4] k (fun kq v4 w' => ∃ (l : List ByteArray) (p : Nat), Aside0 (key_Split.l0 kq a0 p l = some (r1, r2)) ∧ Aside0 (kq ≤ k) ∧ Aside0 (w'.heap[w2.heap.size]? = some (.stringIter a0 p)) ∧ Aside0 (Kd.R Kd.string 9 w' w.heap.size (fun _ => True) v4 l) ∧ Aside0 (Below w.heap.size w w'))
  case atStart => exact ⟨[], 0, ⟨H'⟩, ⟨Nat.le_refl _⟩, HIT0, ⟨Kd.R_nil _ _ _ _ _⟩, ⟨below_alloc HB.out _⟩⟩
  case round =>
   clear H' HIT0 HB
   obtain ⟨l, p, HA, HK1, HIT, HO, HB⟩ := hrel
   cases gk with
   | zero => exact absurd HA.out (by simp [key_Split.l0])
   | succ k1 =>
    have H := HA.out
    clear HA
    simp only [key_Split.l0] at H
    by_cases hp : p < a0.size
    ·rw [if_pos hp] at H
     have hN := fun ty => run_next_any_at (P := Try.prog) wr w2.heap.size a0 p ty HIT.out hp
     obtain ⟨⟨c, d⟩, hcd⟩ : ∃ x, Utf8.decode a0 p = x := ⟨_, rfl⟩
     rw [hcd] at H
     simp only [hcd] at hN
     clear hcd
     replace HO := Aside0.mk (R_iter (p' := p + d) HO.out HIT.out)
     replace HB := Aside0.mk (below_iterAt HB.out HI0.out a0 (p + d))
     replace HIT := Aside0.mk (iterAt_heap wr w2.heap.size a0 p (p + d) HIT.out)
     obtain ⟨t2, A2, H⟩ := Option.bind_eq_some_iff.mp H
     replace A2 := Aside0.mk A2
     cases t2
     case false =>
      obtain ⟨rfl, rfl⟩ : [] = r1 ∧ (9 : Int) = r2 := by simpa using H
      go_wp2_with (first | ((with_reducible refine gate_callee (f := 37) rfl ?_); refine ge_ (some 19) rfl rfl Try.func37 (by kernel_rfl) rfl #[.string (Utf8.encode (c : Int))] rfl (h := ?_); (with_reducible refine (key_Right.calls k1 (Utf8.encode (c : Int)) false _ A2.out).mono ?_); rintro e w4 ⟨rfl, hb⟩; refine ⟨_, rfl, ?_⟩; replace HIT := Aside0.mk (blk_below HIT.out hb); replace HO := Aside0.mk (Kd.R_below HO.out hb); replace HB := bs_ HB hb; clear hb) | ((with_reducible refine gate_builtin (b := .append) (xs := #[.tmp 21, .tmp 23]) rfl ?_); at_builtin; refine Kd.R_append Kd.string (w0 := w) w.heap.size rfl (.tmp 21) (.tmp 23) 75 9 (.string ⟨#[]⟩) 16 rfl Try.underlying75 info9' rfl (by decide) (by omega) u4 l (Utf8.encode (c : Int)) [.string (Utf8.encode (c : Int))] (fun _ => True) (fun _ => False) rfl rfl ?aP (fun _ hk => hk.elim) ?aF ?aO ?aB ?aS ?aL ?_; (case aP => exact rfl); (case aB => exact (hb_ HB)); (case aF => exact (fun _ _ => trivial)); (case aO => exact (rw_ HO.out)); (case aS => exact (below_size (hb_ HB))); (case aL => have := LM.out; omega); intro v5 w5 ho hb hg hat; have n0_ := Aside0.mk (R_iter_grown (rw_ HO.out) (by repeat (first | exact HIT.out | apply blk_drewN | apply blk_drew | apply blk_alloc)) hg); clear HB HO; have HB := Aside0.mk hb; have HO := Aside0.mk ho; clear HIT; have HIT := n0_; clear n0_; clear ho hb hg hat))
      go_ret2
      exact ⟨_, rfl, Kd.R_nil _ _ _ _ _, HB.out⟩
     case true =>
      replace H : (if l.length < 8796093022208 then key_Split.l0 k1 a0 (p + d) (l ++ [Utf8.encode (c : Int)]) else none) = some (r1, r2) := H
      by_cases hl : l.length < 8796093022208
      ·rw [if_pos hl] at H
       have LM := Aside0.mk hl
       have H' := Aside0.mk H
       clear H hl
       go_wp2_with (first | ((with_reducible refine gate_callee (f := 37) rfl ?_); refine ge_ (some 19) rfl rfl Try.func37 (by kernel_rfl) rfl #[.string (Utf8.encode (c : Int))] rfl (h := ?_); (with_reducible refine (key_Right.calls k1 (Utf8.encode (c : Int)) true _ A2.out).mono ?_); rintro e w4 ⟨rfl, hb⟩; refine ⟨_, rfl, ?_⟩; replace HIT := Aside0.mk (blk_below HIT.out hb); replace HO := Aside0.mk (Kd.R_below HO.out hb); replace HB := bs_ HB hb; clear hb) | ((with_reducible refine gate_builtin (b := .append) (xs := #[.tmp 21, .tmp 23]) rfl ?_); at_builtin; refine Kd.R_append Kd.string (w0 := w) w.heap.size rfl (.tmp 21) (.tmp 23) 75 9 (.string ⟨#[]⟩) 16 rfl Try.underlying75 info9' rfl (by decide) (by omega) u4 l (Utf8.encode (c : Int)) [.string (Utf8.encode (c : Int))] (fun _ => True) (fun _ => False) rfl rfl ?aP (fun _ hk => hk.elim) ?aF ?aO ?aB ?aS ?aL ?_; (case aP => exact rfl); (case aB => exact (hb_ HB)); (case aF => exact (fun _ _ => trivial)); (case aO => exact (rw_ HO.out)); (case aS => exact (below_size (hb_ HB))); (case aL => have := LM.out; omega); intro v5 w5 ho hb hg hat; have n0_ := Aside0.mk (R_iter_grown (rw_ HO.out) (by repeat (first | exact HIT.out | apply blk_drewN | apply blk_drew | apply blk_alloc)) hg); clear HB HO; have HB := Aside0.mk hb; have HO := Aside0.mk ho; clear HIT; have HIT := n0_; clear n0_; clear ho hb hg hat))
       repeat (go_quiet (first | ((with_reducible refine gate_callee (f := 37) rfl ?_); refine ge_ (some 19) rfl rfl Try.func37 (by kernel_rfl) rfl #[.string (Utf8.encode (c : Int))] rfl (h := ?_); (with_reducible refine (key_Right.calls k1 (Utf8.encode (c : Int)) true _ A2.out).mono ?_); rintro e w4 ⟨rfl, hb⟩; refine ⟨_, rfl, ?_⟩; replace HIT := Aside0.mk (blk_below HIT.out hb); replace HO := Aside0.mk (Kd.R_below HO.out hb); replace HB := bs_ HB hb; clear hb) | ((with_reducible refine gate_builtin (b := .append) (xs := #[.tmp 21, .tmp 23]) rfl ?_); at_builtin; refine Kd.R_append Kd.string (w0 := w) w.heap.size rfl (.tmp 21) (.tmp 23) 75 9 (.string ⟨#[]⟩) 16 rfl Try.underlying75 info9' rfl (by decide) (by omega) u4 l (Utf8.encode (c : Int)) [.string (Utf8.encode (c : Int))] (fun _ => True) (fun _ => False) rfl rfl ?aP (fun _ hk => hk.elim) ?aF ?aO ?aB ?aS ?aL ?_; (case aP => exact rfl); (case aB => exact (hb_ HB)); (case aF => exact (fun _ _ => trivial)); (case aO => exact (rw_ HO.out)); (case aS => exact (below_size (hb_ HB))); (case aL => have := LM.out; omega); intro v5 w5 ho hb hg hat; have n0_ := Aside0.mk (R_iter_grown (rw_ HO.out) (by repeat (first | exact HIT.out | apply blk_drewN | apply blk_drew | apply blk_alloc)) hg); clear HB HO; have HB := Aside0.mk hb; have HO := Aside0.mk ho; clear HIT; have HIT := n0_; clear n0_; clear ho hb hg hat)); try go_wp2_with (first | ((with_reducible refine gate_callee (f := 37) rfl ?_); refine ge_ (some 19) rfl rfl Try.func37 (by kernel_rfl) rfl #[.string (Utf8.encode (c : Int))] rfl (h := ?_); (with_reducible refine (key_Right.calls k1 (Utf8.encode (c : Int)) true _ A2.out).mono ?_); rintro e w4 ⟨rfl, hb⟩; refine ⟨_, rfl, ?_⟩; replace HIT := Aside0.mk (blk_below HIT.out hb); replace HO := Aside0.mk (Kd.R_below HO.out hb); replace HB := bs_ HB hb; clear hb) | ((with_reducible refine gate_builtin (b := .append) (xs := #[.tmp 21, .tmp 23]) rfl ?_); at_builtin; refine Kd.R_append Kd.string (w0 := w) w.heap.size rfl (.tmp 21) (.tmp 23) 75 9 (.string ⟨#[]⟩) 16 rfl Try.underlying75 info9' rfl (by decide) (by omega) u4 l (Utf8.encode (c : Int)) [.string (Utf8.encode (c : Int))] (fun _ => True) (fun _ => False) rfl rfl ?aP (fun _ hk => hk.elim) ?aF ?aO ?aB ?aS ?aL ?_; (case aP => exact rfl); (case aB => exact (hb_ HB)); (case aF => exact (fun _ _ => trivial)); (case aO => exact (rw_ HO.out)); (case aS => exact (below_size (hb_ HB))); (case aL => have := LM.out; omega); intro v5 w5 ho hb hg hat; have n0_ := Aside0.mk (R_iter_grown (rw_ HO.out) (by repeat (first | exact HIT.out | apply blk_drewN | apply blk_drew | apply blk_alloc)) hg); clear HB HO; have HB := Aside0.mk hb; have HO := Aside0.mk ho; clear HIT; have HIT := n0_; clear n0_; clear ho hb hg hat)))
       go_roundg k1
       case measure => have := HK1.out; omega
       case rel => exact ⟨_, _, H', ⟨by have := HK1.out; omega⟩, HIT, HO, HB⟩
      ·rw [if_neg hl] at H
       exact absurd H (by simp)
    ·rw [if_neg hp] at H
     obtain ⟨rfl, rfl⟩ : l = r1 ∧ (0 : Int) = r2 := by simpa using H
     have hN := fun ty => run_next_end_at (P := Try.prog) wr w2.heap.size a0 p ty HIT.out hp
     go_wp2
     go_ret2
     exact ⟨_, rfl, HO.out, HB.out⟩
end

/-! ### strings_Join: function 73, by hand (strings.Join.lean) -/
section
open Go.Shelf
def shelf_lays156_ren : Go.Shelf.Ren := ⟨fun | 156 => 73 | 165 => 104 | 166 => 77 | 169 => 78 | 240 => 108 | 241 => 112 | 276 => 116 | 277 => 120 | n => n, fun | 31 => 75 | 9 => 9 | 3 => 3 | 4 => 4 | 0 => 0 | 20 => 20 | 72 => 117 | 76 => 122 | 70 => 115 | 37 => 84 | 75 => 121 | 127 => 141 | 164 => 149 | 5 => 5 | 80 => 124 | n => n, fun | n => n⟩
theorem shelf_lays156 : Go.Proofs.Lays.n156 Try.prog shelf_lays156_ren := {
 mixed := by kernel_rfl
 f156 := Try.func73.trans (congrArg some (by kernel_rfl))
 f165 := Try.func104.trans (congrArg some (by kernel_rfl))
 f166 := Try.func77.trans (congrArg some (by kernel_rfl))
 f169 := Try.func78.trans (congrArg some (by kernel_rfl))
 f240 := Try.func108.trans (congrArg some (by kernel_rfl))
 f241 := Try.func112.trans (congrArg some (by kernel_rfl))
 f276 := Try.func116.trans (congrArg some (by kernel_rfl))
 f277 := Try.func120.trans (congrArg some (by kernel_rfl))
 t0 := Try.underlying0
 a0 := Try.isAgg0
 z0 := Try.sizeOf0
 v0 := Try.zeroValue0
 t3 := Try.underlying3
 a3 := Try.isAgg3
 z3 := Try.sizeOf3
 v3 := Try.zeroValue3
 t4 := Try.underlying4
 a4 := Try.isAgg4
 z4 := Try.sizeOf4
 v4 := Try.zeroValue4
 t9 := Try.underlying9
 a9 := Try.isAgg9
 z9 := Try.sizeOf9
 v9 := Try.zeroValue9
 t20 := Try.underlying20
 a20 := Try.isAgg20
 z20 := Try.sizeOf20
 v20 := Try.zeroValue20
 t31 := Try.underlying75
 a31 := Try.isAgg75
 z31 := Try.sizeOf75
 v31 := Try.zeroValue75
 t37 := Try.underlying84
 a37 := Try.isAgg84
 z37 := Try.sizeOf84
 v37 := Try.zeroValue84
 t70 := Try.underlying115
 a70 := Try.isAgg115
 z70 := Try.sizeOf115
 v70 := Try.zeroValue115
 t72 := Try.underlying117
 a72 := Try.isAgg117
 z72 := Try.sizeOf117
 v72 := Try.zeroValue117
 t75 := Try.underlying121
 a75 := Try.isAgg121
 z75 := Try.sizeOf121
 v75 := Try.zeroValue121
 t76 := Try.underlying122
 a76 := Try.isAgg122
 z76 := Try.sizeOf122
 v76 := Try.zeroValue122
 t127 := Try.underlying141
 a127 := Try.isAgg141
 z127 := Try.sizeOf141
 v127 := Try.zeroValue141
 t164 := Try.underlying149
 a164 := Try.isAgg149
 z164 := Try.sizeOf149
 v164 := Try.zeroValue149 }
theorem shelf_Builder_Extra_156 : Builder.Extra Try.prog shelf_lays156_ren := {
 sizeBuilder := by kernel_rfl
 liesBuilder := by kernel_rfl
 t5 := Try.underlying5
 a5 := Try.isAgg5
 z5 := Try.sizeOf5
 v5 := Try.zeroValue5
 infoByte := by kernel_rfl
 cellsByte := by kernel_rfl
 sizeByte := by kernel_rfl
 neB5 := by decide }
open Go.RowKit in
theorem shelf_strings_Join_none (a : Option Addr) (c : Nat) (sep : ByteArray) (w : World) :
  Calls Try.prog 73 #[.slice a 0 c, .string sep] w fun e w' => e = .returned (.string ⟨#[]⟩) ∧ w' = w := Any.strings_Join_none shelf_lays156 shelf_Builder_Extra_156 a c sep w
open Go.RowKit in
theorem shelf_strings_Join (bk o c : Nat) (xs : List ByteArray) (sep : ByteArray) (w : World) (hcells : ∀ (j : Nat) x, xs[j]? = some x → w.cell? ⟨bk, o + j, none⟩ = some (.string x)) (hbk : bk < w.heap.size) (hN : xs.length ≤ 140737488355328) (hcap : xs.length ≤ c) (hlen : (Lib.join (xs.map (·.data.toList)) sep.data.toList).length ≤ 140737488355328) :
  Calls Try.prog 73 #[.slice (some ⟨bk, o, none⟩) xs.length c, .string sep] w fun e w' => e = .returned (.string ⟨(Lib.join (xs.map (·.data.toList)) sep.data.toList).toArray⟩) ∧ Below w.heap.size w w' := Any.strings_Join shelf_lays156 shelf_Builder_Extra_156 bk o c xs sep w hcells hbk hN hcap hlen
end
def strings_Join.f (l0 : List ByteArray) (a1 : ByteArray) : Option ByteArray := if l0.length ≤ 1000000 ∧ (Lib.join (l0.map (·.data.toList)) a1.data.toList).length ≤ 140737488355328 then some ⟨(Lib.join (l0.map (·.data.toList)) a1.data.toList).toArray⟩ else none
theorem spot_none {w : World} {a : Addr} {v : Value} (h : w.cell? a = some v) : a.spot = none := by
 unfold World.cell? at h
 split at h
 ·cases hs : a.spot with
  | none => rfl
  | some x => rw [hs] at h; simp at h
 ·cases h
set_option maxRecDepth 100000 in
theorem strings_Join.calls (A0 : Option Addr) (c0 : Nat) (l0 : List ByteArray) (a1 : ByteArray) (r : ByteArray) (w : World) (hr0 : Kd.C Kd.string w A0 l0.length l0) (hc0 : l0.length ≤ c0) (h : strings_Join.f l0 a1 = some r) :
  Calls Try.prog 73 #[.slice A0 l0.length c0, .string a1] w fun e w' => e = .returned (.string r) ∧ Below w.heap.size w w' := by
 have hh : (l0.length ≤ 1000000 ∧ (Lib.join (l0.map (·.data.toList)) a1.data.toList).length ≤ 140737488355328) ∧ (⟨(Lib.join (l0.map (·.data.toList)) a1.data.toList).toArray⟩ : ByteArray) = r := by
  unfold strings_Join.f at h
  by_cases g : l0.length ≤ 1000000 ∧ (Lib.join (l0.map (·.data.toList)) a1.data.toList).length ≤ 140737488355328
  ·rw [if_pos g] at h; exact ⟨g, Option.some.inj h⟩
  ·rw [if_neg g] at h; exact absurd h (by simp)
 clear h
 obtain ⟨⟨h1, h2⟩, rfl⟩ := hh
 cases l0 with
 | nil =>
  have e : (⟨(Lib.join (([] : List ByteArray).map (·.data.toList)) a1.data.toList).toArray⟩ : ByteArray) = ⟨#[]⟩ := rfl
  rw [e]
  have q := shelf_strings_Join_none A0 c0 a1 w
  show Calls Try.prog 73 #[.slice A0 0 c0, .string a1] w _
  exact q.mono fun e w' ⟨he, hw⟩ => ⟨he, hw ▸ Below.refl _ _⟩
 | cons x t =>
  obtain ⟨ad, e, hx⟩ := Kd.at_string hr0 0 (by omega) (by simp only [List.length_cons]; omega)
  subst e
  have hs := spot_none hx
  obtain ⟨bk, o, sp⟩ := ad
  obtain rfl : sp = none := by
   cases sp with
   | none => rfl
   | some q => unfold Addr.add at hs; split at hs <;> simp_all
  have hadd : ∀ n, (⟨bk, o, none⟩ : Addr).add n = ⟨bk, o + n, none⟩ := fun n => by unfold Addr.add; split <;> simp_all
  have c1 : ∀ (j : Nat) y, (x :: t)[j]? = some y → w.cell? ⟨bk, o + j, none⟩ = some (.string y) := fun j y hj => by
   have hjl : j < (x :: t).length := (List.getElem?_eq_some_iff.1 hj).1
   obtain ⟨ad', e', hx'⟩ := Kd.at_string hr0 (j : Int) (by omega) (by omega)
   cases e'
   rw [hadd, Int.toNat_natCast] at hx'
   rw [hx']
   unfold rdOf
   rw [Int.toNat_natCast, List.getD_eq_getElem?_getD, hj]; rfl
  have c2 : bk < w.heap.size := by
   have := World.block_lt_of_cell? w _ hx
   rw [hadd] at this
   exact this
  have c3 : (x :: t).length ≤ 140737488355328 := Nat.le_trans h1 (by decide)
  exact shelf_strings_Join bk o c0 (x :: t) a1 w c1 c2 c3 hc0 h2

/-! ### key_Text: function 44 -/
def key_Text.l0 : Nat → List ByteArray → Int → Int → Option (ByteArray × Int)
 | 0, _, _, _ => none
 | k + 1, x4, x16, x17 => if x17 < x16 then (if 0 ≤ x17 then (if x17 < (x4.length : Int) then ((key_Name.f k (rdOf ByteArray.empty x4 x17)).bind fun t116 => (key_Text.l0 k (x4.set (x17 : Int).toNat t116) x16 (wrap64 (x17 + 1)))) else (none)) else (none)) else ((strings_Join.f x4 (⟨#[]⟩ : ByteArray)).bind fun t118 => (some (t118, 0)))
def key_Text.f (k : Nat) (a0 : ByteArray) : Option (ByteArray × Int) := (key_Split.f k a0).bind fun bt111 => (if bt111.2 = 0 then (key_Text.l0 k bt111.1 (bt111.1.length : Int) 0) else (some ((⟨#[]⟩ : ByteArray), bt111.2)))
theorem key_Text.mono_l : ∀ k, (∀ y0 y1 y2, LeO (key_Text.l0 k y0 y1 y2) (key_Text.l0 (k + 1) y0 y1 y2))
 | 0 => fun _ _ _ r h => by simp [key_Text.l0] at h
 | k + 1 => by
  have ih0 := key_Text.mono_l k
  ·intro y0 y1 y2
   unfold key_Text.l0
   repeat' first
   | (with_reducible exact ih0 _ _ _)
   | (with_reducible exact key_Name.mono _ _)
   | (with_reducible exact key_Split.mono _ _)
   | (with_reducible exact LeO.refl _)
   | (with_reducible exact LeO.none _)
   | (with_reducible refine LeO.ite ?_ ?_)
   | (with_reducible refine LeO.bind ?_ (fun _ => ?_))
   | exact ih0 _ _ _
   | exact key_Name.mono _ _
   | exact key_Split.mono _ _
   | exact LeO.none _
   | refine LeO.ite ?_ ?_
   | refine LeO.bind ?_ (fun _ => ?_)
theorem key_Text.mono : ∀ a0 k, LeO (key_Text.f k a0) (key_Text.f (k + 1) a0) := by
 intro a0 k
 have ih0 := key_Text.mono_l k
 unfold key_Text.f
 repeat' first
   | (with_reducible exact ih0 _ _ _)
   | (with_reducible exact key_Name.mono _ _)
   | (with_reducible exact key_Split.mono _ _)
   | (with_reducible exact LeO.refl _)
   | (with_reducible exact LeO.none _)
   | (with_reducible refine LeO.ite ?_ ?_)
   | (with_reducible refine LeO.bind ?_ (fun _ => ?_))
   | exact ih0 _ _ _
   | exact key_Name.mono _ _
   | exact key_Split.mono _ _
   | exact LeO.none _
   | refine LeO.ite ?_ ?_
   | refine LeO.bind ?_ (fun _ => ?_)
set_option maxHeartbeats 8000000 in
set_option maxRecDepth 100000 in
theorem key_Text.calls (k : Nat) (a0 : ByteArray) (r1 : ByteArray) (r2 : Int) (w : World) (h : key_Text.f k a0 = some (r1, r2)) :
  Calls Try.prog 44 #[.string a0] w fun e w' => e = .returned (.tuple #[.string r1, .int .i64 r2]) ∧ Below w.heap.size w w' := by
 have HB := Aside0.mk (Below.refl w.heap.size w)
 have H : ((key_Split.f k a0).bind fun bt111 => (if bt111.2 = 0 then (key_Text.l0 k bt111.1 (bt111.1.length : Int) 0) else (some ((⟨#[]⟩ : ByteArray), bt111.2)))) = some (r1, r2) := h
 clear h
 replace H := Option.bind_eq_some_iff.mp H
 obtain ⟨⟨t111, t112⟩, A20, H⟩ := H
 replace H : (if t112 = 0 then (key_Text.l0 k t111 (t111.length : Int) 0) else (some ((⟨#[]⟩ : ByteArray), t112))) = some (r1, r2) := H
 have A2 := Aside0.mk A20
 clear A20
 by_cases c3 : t112 = 0
 ·rw [if_pos c3] at H
  have c3b0 : (t112 == 0) = true := beq_iff_eq.mpr c3
  have c3b1 : (t112 != 0) = false := bne_eq_false_iff_eq.mpr c3
  clear c3
  have H' := Aside0.mk H
  clear H
  go_enter Try.func44, Try.ntmps44
  go_wp2_with (first | ((with_reducible refine gate_callee (f := 45) rfl ?_); refine ge_ (some 9) rfl rfl Try.func45 (by kernel_rfl) rfl #[.string a0] rfl (h := ?_); (with_reducible refine (key_Split.calls k a0 t111 t112 _ A2.out).mono ?_); rintro e w4 ⟨v113, rfl, ho0, hb⟩; refine ⟨_, rfl, ?_⟩; have HO114 := Aside0.mk (Kd.R_lower ho0 (below_size (hb_ HB))); replace HB := bs_ HB hb; (try clear hb); (try clear hb2); (try clear hk); (try clear hi); (try clear ho0); obtain ⟨Ao5, co5, eo5⟩ := Kd.R_slice HO114.out; subst eo5))
  go_loopg [17] k (fun kq v17 w' => ∃ (x4_1 : List ByteArray) (x17_1 : Int), v17 = .int .i64 x17_1 ∧ Aside0 (key_Text.l0 kq x4_1 (t111.length : Int) x17_1 = some (r1, r2)) ∧ Aside0 (kq ≤ k) ∧ Aside0 (Kd.R Kd.string 9 w' w.heap.size (fun _ => True) (.slice Ao5 t111.length co5) x4_1) ∧ Aside0 (Below w.heap.size w w'))
  case atStart => exact ⟨(t111), (0), es_, H', ⟨Nat.le_refl _⟩, ⟨rw_ HO114.out⟩, ⟨hb_ HB⟩⟩
  case round =>
   clear H'
   try clear c3
   try clear c3b0
   try clear c3b1
   obtain ⟨x4_1, x17_1, rfl, HA, HK1, HO_4, HB⟩ := hrel
   have hl4_1 := (Kd.R_reads' HO_4.out).1
   rw [hl4_1] at HO_4
   (try simp only [hl4_1])
   cases gk with
   | zero => exact absurd HA.out (by simp [key_Text.l0])
   | succ k1 =>
    have H := HA.out
    clear HA
    simp only [key_Text.l0] at H
    by_cases c6 : x17_1 < (t111.length : Int)
    ·rw [if_pos c6] at H
     have c6b0 : decide (x17_1 < (t111.length : Int)) = true := decide_eq_true c6
     (try rw [hl4_1] at c6b0)
     clear c6
     by_cases c7 : 0 ≤ x17_1
     ·rw [if_pos c7] at H
      have c7b0 : decide (0 ≤ x17_1) = true := decide_eq_true c7
      clear c7
      by_cases c8 : x17_1 < (x4_1.length : Int)
      ·rw [if_pos c8] at H
       have c8b0 : decide (x17_1 < (x4_1.length : Int)) = true := decide_eq_true c8
       (try rw [hl4_1] at c8b0)
       clear c8
       replace H := Option.bind_eq_some_iff.mp H
       obtain ⟨t116, A90, H⟩ := H
       replace H : (key_Text.l0 k1 (x4_1.set (x17_1 : Int).toNat t116) (t111.length : Int) (wrap64 (x17_1 + 1))) = some (r1, r2) := H
       have A9 := Aside0.mk A90
       clear A90
       obtain ⟨y117, hy117⟩ : ∃ y_ : List ByteArray, y_ = (x4_1.set (x17_1 : Int).toNat t116) := ⟨_, rfl⟩
       replace H : (key_Text.l0 k1 y117 (t111.length : Int) (wrap64 (x17_1 + 1))) = some (r1, r2) := th_ H hy117
       have Ny117 := Aside0.mk hy117
       clear hy117
       have H' := Aside0.mk H
       clear H
       have p115 : 0 ≤ (x17_1 : Int) := of_decide_eq_true as_
       have q115 : x17_1 < (x4_1.length : Int) := of_decide_eq_true as_
       obtain ⟨ad115, e115, hx115_0⟩ := Kd.at_string (Kd.R_reads' HO_4.out).2.2 x17_1 p115 q115
       cases e115
       replace p115 := eq_true p115
       replace q115 := eq_true q115
       go_wp2_with (first | ((with_reducible refine gate_callee (f := 41) rfl ?_); refine ge_ (some 26) rfl rfl Try.func41 (by kernel_rfl) rfl #[.string (rdOf ByteArray.empty x4_1 x17_1)] rfl (h := ?_); (with_reducible refine (key_Name.calls k1 (rdOf ByteArray.empty x4_1 x17_1) t116 _ A9.out).mono ?_); rintro e w11 ⟨rfl, hb⟩; refine ⟨_, rfl, ?_⟩; replace HO_4 := Aside0.mk (Kd.R_below (rw_ HO_4.out) hb); replace HB := bs_ HB hb; (try clear hb); (try clear hb2); (try clear hk); (try clear hi); have p10 : 0 ≤ (x17_1 : Int) := of_decide_eq_true as_; have q10 : (x17_1 : Int) < ((x4_1.length : Int) : Int) := of_decide_eq_true as_; obtain ⟨go10, co10, eo10, gb10, gl10, cl10, HG10⟩ := Kd.R_form HO_4.out (by omega); (first | cases eo10 | (injection eo10 with ea_ en_ ec_; (first | subst ea_ | (injection ea_ with ea_; subst ea_)); subst ec_; clear en_)); have GB10 := Aside0.mk gb10; have GG10 := Aside0.mk HG10; clear gb10 gl10 HG10; (first | simp only [add_plain] at hx115_0 | skip); obtain ⟨hx10_0, hf10_0⟩ := Kd.R_celln (⟨#[]⟩ : ByteArray) HO_4.out (x17_1 : Int) p10 q10; replace p10 := eq_true p10; replace q10 := eq_true q10; obtain ⟨hy12_, hz12_⟩ := Kd.R_celln (⟨#[]⟩ : ByteArray) HO_4.out (x17_1 : Int) (of_decide_eq_true as_) (of_decide_eq_true as_); have HP12 := Kd.R_putg HO_4.out (x17_1 : Int) t116) | ((with_reducible refine gate_store (t := 9) (p := 27) rfl ?_); refine store_event (t := 9) (p := 27) (v := ?vo_w13) (w1 := (w11.setCell ⟨go10, (x17_1 : Int).toNat, none⟩ (.string t116))) ?hg ?ho ?hn ?hr ?_; (case ho => rfl); (case hg => rfl); (case hn => rfl); (case hr => first | (go_simp; done) | (go_simp; rfl)); intro w13 hw; have hg : w11.grownBy w13 (some go10) := (by rw [hw]; exact HP12.2); have hp_ : Kd.R Kd.string 9 w13 w.heap.size (fun _ => True) (.slice (some ⟨go10, 0, none⟩) x4_1.length co5) y117 := (by rw [hw, Ny117.out]; exact HP12.1); clear HP12; replace HO_4 := Aside0.mk (hp_); replace HB := Aside0.mk ((by rw [hw]; exact below_set (HB.out) GB10.out : Below w.heap.size w w13)); clear hg hw hp_))
       (try simp only [← hl4_1])
       go_roundg k1
       case measure => have := HK1.out; omega
       case rel => exact ⟨(y117), (wrap64 (x17_1 + 1)), es_, H', ⟨by have := HK1.out; omega⟩, ⟨by (try simp only [hl4_1]); (with_reducible repeat (first | apply Kd.R_alloc | apply Kd.R_drewN | apply Kd.R_drew)); exact HO_4.out⟩, ⟨hb_ HB⟩⟩
      ·rw [if_neg c8] at H
       exact absurd H (by simp)
     ·rw [if_neg c7] at H
      exact absurd H (by simp)
    ·rw [if_neg c6] at H
     have c6b0 : decide (x17_1 < (t111.length : Int)) = false := decide_eq_false c6
     (try rw [hl4_1] at c6b0)
     clear c6
     replace H := Option.bind_eq_some_iff.mp H
     obtain ⟨t118, A140, H⟩ := H
     replace H : (some (t118, 0)) = some (r1, r2) := H
     have A14 := Aside0.mk A140
     clear A140
     simp only [Option.some.injEq, Prod.mk.injEq] at H
     obtain ⟨rfl, rfl⟩ := H
     go_wp2_with (first | ((with_reducible refine gate_callee (f := 73) rfl ?_); refine ge_ (some 30) rfl rfl Try.func73 (by kernel_rfl) rfl #[.slice Ao5 x4_1.length co5, .string (⟨#[]⟩ : ByteArray)] rfl (h := ?_); (with_reducible refine (strings_Join.calls _ _ x4_1 (⟨#[]⟩ : ByteArray) t118 _ ?side1 ?side2 A14.out).mono ?_); (case side1 => repeat (first | exact (Kd.R_reads' HO_4.out).2.2 | (with_reducible refine Kd.C_alloc ?_ _) | (with_reducible refine Kd.C_drewN ?_ _) | (with_reducible refine Kd.C_drew ?_))); (case side2 => exact (Kd.R_reads' HO_4.out).2.1); rintro e w15 ⟨rfl, hb⟩; refine ⟨_, rfl, ?_⟩; replace HO_4 := Aside0.mk (Kd.R_below (rw_ HO_4.out) hb); replace HB := bs_ HB hb; (try clear hb); (try clear hb2); (try clear hk); (try clear hi)))
     go_ret2
     exact ⟨er_, hb_ HB⟩
 ·rw [if_neg c3] at H
  have c3b0 : (t112 == 0) = false := beq_eq_false_iff_ne.mpr c3
  have c3b1 : (t112 != 0) = true := bne_iff_ne.mpr c3
  simp only [Option.some.injEq, Prod.mk.injEq] at H
  obtain ⟨rfl, rfl⟩ := H
  go_enter Try.func44, Try.ntmps44
  go_wp2_with (first | ((with_reducible refine gate_callee (f := 45) rfl ?_); refine ge_ (some 9) rfl rfl Try.func45 (by kernel_rfl) rfl #[.string a0] rfl (h := ?_); (with_reducible refine (key_Split.calls k a0 t111 t112 _ A2.out).mono ?_); rintro e w16 ⟨v113, rfl, ho0, hb⟩; refine ⟨_, rfl, ?_⟩; have HO114 := Aside0.mk (Kd.R_lower ho0 (below_size (hb_ HB))); replace HB := bs_ HB hb; (try clear hb); (try clear hb2); (try clear hk); (try clear hi); (try clear ho0)))
  go_ret2
  exact ⟨er_, hb_ HB⟩

/-! ### calamuslaw13_lives: function 43 -/
def calamuslaw13_lives.f (k : Nat)  : Option (Bool) := (key_Text.f k (⟨#[100, 9, 27, 60]⟩ : ByteArray)).bind fun bt119 => (if bt119.1.toList = ([100, 60, 84, 97, 98, 62, 60, 69, 115, 99, 62, 60, 108, 116, 62] : List UInt8) then (some (bt119.2 == 0)) else (some false))
theorem calamuslaw13_lives.mono : ∀ k, LeO (calamuslaw13_lives.f k ) (calamuslaw13_lives.f (k + 1) ) := by
 intro  k
 unfold calamuslaw13_lives.f
 repeat' first
   | (with_reducible exact key_Text.mono _ _)
   | (with_reducible exact LeO.refl _)
   | (with_reducible exact LeO.none _)
   | (with_reducible refine LeO.ite ?_ ?_)
   | (with_reducible refine LeO.bind ?_ (fun _ => ?_))
   | exact key_Text.mono _ _
   | exact LeO.none _
   | refine LeO.ite ?_ ?_
   | refine LeO.bind ?_ (fun _ => ?_)
theorem calamuslaw13_lives.true_ {k : Nat} {r : Bool} (h : calamuslaw13_lives.f k = some r) : r = true := by
 have h1 := at_rounds (g := fun k => calamuslaw13_lives.f k) calamuslaw13_lives.mono (Nat.le_max_left k 60) h
 have h2 := at_rounds (g := fun k => calamuslaw13_lives.f k) calamuslaw13_lives.mono (Nat.le_max_right k 60) (show calamuslaw13_lives.f 60 = some true by decide +kernel)
 rw [h1] at h2
 exact Option.some.inj h2
set_option maxHeartbeats 8000000 in
set_option maxRecDepth 100000 in
theorem calamuslaw13_lives.calls (k : Nat)  (r : Bool) (w : World) (h : calamuslaw13_lives.f k  = some r) :
  Calls Try.prog 43 #[] w fun e w' => e = .returned (.bool r) ∧ Below w.heap.size w w' := by
 have hr_ := calamuslaw13_lives.true_ h
 have HB := Aside0.mk (Below.refl w.heap.size w)
 have H : ((key_Text.f k (⟨#[100, 9, 27, 60]⟩ : ByteArray)).bind fun bt119 => (if bt119.1.toList = ([100, 60, 84, 97, 98, 62, 60, 69, 115, 99, 62, 60, 108, 116, 62] : List UInt8) then (some (bt119.2 == 0)) else (some false))) = some r := h
 clear h
 replace H := Option.bind_eq_some_iff.mp H
 obtain ⟨⟨t119, t120⟩, A10, H⟩ := H
 replace H : (if t119.toList = ([100, 60, 84, 97, 98, 62, 60, 69, 115, 99, 62, 60, 108, 116, 62] : List UInt8) then (some (t120 == 0)) else (some false)) = some r := H
 have A1 := Aside0.mk A10
 clear A10
 by_cases c2 : t119.toList = ([100, 60, 84, 97, 98, 62, 60, 69, 115, 99, 62, 60, 108, 116, 62] : List UInt8)
 ·rw [if_pos c2] at H
  have c2b0 : (t119.toList == ([100, 60, 84, 97, 98, 62, 60, 69, 115, 99, 62, 60, 108, 116, 62] : List UInt8)) = true := beq_iff_eq.mpr c2
  have c2b1 : (t119.toList != ([100, 60, 84, 97, 98, 62, 60, 69, 115, 99, 62, 60, 108, 116, 62] : List UInt8)) = false := bne_eq_false_iff_eq.mpr c2
  clear c2
  obtain rfl := Option.some.inj H
  go_enter Try.func43, Try.ntmps43
  go_wp2_with (first | ((with_reducible refine gate_callee (f := 44) rfl ?_); refine ge_ (some 4) rfl rfl Try.func44 (by kernel_rfl) rfl #[.string (⟨#[100, 9, 27, 60]⟩ : ByteArray)] rfl (h := ?_); (with_reducible refine (key_Text.calls k (⟨#[100, 9, 27, 60]⟩ : ByteArray) t119 t120 _ A1.out).mono ?_); rintro e w3 ⟨rfl, hb⟩; refine ⟨_, rfl, ?_⟩; replace HB := bs_ HB hb; (try clear hb); (try clear hb2); (try clear hk); (try clear hi)))
  go_ret
  exact ⟨er_, hb_ HB⟩
 ·rw [if_neg c2] at H
  have c2b0 : (t119.toList == ([100, 60, 84, 97, 98, 62, 60, 69, 115, 99, 62, 60, 108, 116, 62] : List UInt8)) = false := beq_eq_false_iff_ne.mpr c2
  have c2b1 : (t119.toList != ([100, 60, 84, 97, 98, 62, 60, 69, 115, 99, 62, 60, 108, 116, 62] : List UInt8)) = true := bne_iff_ne.mpr c2
  exact nf_ H hr_
/-! ### calamusref03_Bytes: function 102 -/
def calamusref03_Bytes.j0 : Nat → Int → Bool → Option (ByteArray)
 | 0, _, _ => none
 | k + 1, x0, x16 => if x16 = true then (some (⟨#[]⟩ : ByteArray)) else (if x0 < 128 then (some (strOfNums (([(x0) % 256] : List Int)))) else (if x0 < 2048 then (some (strOfNums (([(wrap64 (192 + (wrap64 (Int.tdiv x0 64)))) % 256, (wrap64 (128 + (Int.tmod x0 64))) % 256] : List Int)))) else (if x0 < 65536 then (some (strOfNums (([(wrap64 (224 + (wrap64 (Int.tdiv x0 4096)))) % 256, (wrap64 (128 + (Int.tmod (wrap64 (Int.tdiv x0 64)) 64))) % 256, (wrap64 (128 + (Int.tmod x0 64))) % 256] : List Int)))) else (some (strOfNums (([(wrap64 (240 + (wrap64 (Int.tdiv x0 262144)))) % 256, (wrap64 (128 + (Int.tmod (wrap64 (Int.tdiv x0 4096)) 64))) % 256, (wrap64 (128 + (Int.tmod (wrap64 (Int.tdiv x0 64)) 64))) % 256, (wrap64 (128 + (Int.tmod x0 64))) % 256] : List Int)))))))
def calamusref03_Bytes.f (k : Nat) (a0 : Int) : Option (ByteArray) := if a0 < 0 then (calamusref03_Bytes.j0 k a0 true) else (if a0 > 1114111 then (calamusref03_Bytes.j0 k a0 true) else (if a0 ≥ 55296 then (calamusref03_Bytes.j0 k a0 (decide (a0 < 57344))) else (calamusref03_Bytes.j0 k a0 false)))
theorem calamusref03_Bytes.mono_l : ∀ k, (∀ y0 y1, LeO (calamusref03_Bytes.j0 k y0 y1) (calamusref03_Bytes.j0 (k + 1) y0 y1))
 | 0 => fun _ _ r h => by simp [calamusref03_Bytes.j0] at h
 | k + 1 => by
  have ih0 := calamusref03_Bytes.mono_l k
  ·intro y0 y1
   unfold calamusref03_Bytes.j0
   repeat' first
   | (with_reducible exact ih0 _ _)
   | (with_reducible exact LeO.refl _)
   | (with_reducible exact LeO.none _)
   | (with_reducible refine LeO.ite ?_ ?_)
   | (with_reducible refine LeO.bind ?_ (fun _ => ?_))
   | exact ih0 _ _
   | exact LeO.none _
   | refine LeO.ite ?_ ?_
   | refine LeO.bind ?_ (fun _ => ?_)
theorem calamusref03_Bytes.mono : ∀ a0 k, LeO (calamusref03_Bytes.f k a0) (calamusref03_Bytes.f (k + 1) a0) := by
 intro a0 k
 have ih0 := calamusref03_Bytes.mono_l k
 unfold calamusref03_Bytes.f
 repeat' first
   | (with_reducible exact ih0 _ _)
   | (with_reducible exact LeO.refl _)
   | (with_reducible exact LeO.none _)
   | (with_reducible refine LeO.ite ?_ ?_)
   | (with_reducible refine LeO.bind ?_ (fun _ => ?_))
   | exact ih0 _ _
   | exact LeO.none _
   | refine LeO.ite ?_ ?_
   | refine LeO.bind ?_ (fun _ => ?_)
set_option maxHeartbeats 8000000 in
set_option maxRecDepth 100000 in
theorem calamusref03_Bytes.calls (k : Nat) (a0 : Int) (r : ByteArray) (w : World) (h : calamusref03_Bytes.f k a0 = some r) :
  Calls Try.prog 102 #[.int .i64 a0] w fun e w' => e = .returned (.string r) ∧ Below w.heap.size w w' := by
 have HB := Aside0.mk (Below.refl w.heap.size w)
 have H : (if a0 < 0 then (calamusref03_Bytes.j0 k a0 true) else (if a0 > 1114111 then (calamusref03_Bytes.j0 k a0 true) else (if a0 ≥ 55296 then (calamusref03_Bytes.j0 k a0 (decide (a0 < 57344))) else (calamusref03_Bytes.j0 k a0 false)))) = some r := h
 clear h
 have HC2 := Aside0.mk H
 clear H
 go_enter Try.func102, Try.ntmps102
 go_upto_region 1 with (fail)
 go_cut [16] (fun v16 wc => ∃ (kq : Nat) (x16_1 : Bool), v16 = .bool x16_1 ∧ Aside0 (calamusref03_Bytes.j0 kq a0 x16_1 = some r) ∧ Aside0 (kq ≤ k) ∧ Aside0 (Below w.heap.size w wc))
 case first =>
  have H := HC2.out
  clear HC2
  by_cases c3 : a0 < 0
  ·rw [if_pos c3] at H
   have c3b0 : decide (a0 < 0) = true := decide_eq_true c3
   clear c3
   (first | rw [c3b0] | (simp only [i64_w, i32_w]; rw [c3b0]) | skip)
   have H' := Aside0.mk H
   clear H
   go_wp2
   go_meet
   case rel => exact ⟨_, (true), es_, H', ⟨by first | omega | exact Nat.le_refl _⟩, ⟨hb_ HB⟩⟩
  ·rw [if_neg c3] at H
   have c3b0 : decide (a0 < 0) = false := decide_eq_false c3
   clear c3
   (first | rw [c3b0] | (simp only [i64_w, i32_w]; rw [c3b0]) | skip)
   by_cases c4 : a0 > 1114111
   ·rw [if_pos c4] at H
    have c4b0 : decide (1114111 < a0) = true := decide_eq_true c4
    clear c4
    have H' := Aside0.mk H
    clear H
    go_wp2
    go_meet
    case rel => exact ⟨_, (true), es_, H', ⟨by first | omega | exact Nat.le_refl _⟩, ⟨hb_ HB⟩⟩
   ·rw [if_neg c4] at H
    have c4b0 : decide (1114111 < a0) = false := decide_eq_false c4
    clear c4
    by_cases c5 : a0 ≥ 55296
    ·rw [if_pos c5] at H
     have c5b0 : decide (55296 ≤ a0) = true := decide_eq_true c5
     clear c5
     have H' := Aside0.mk H
     clear H
     go_wp2
     go_meet
     case rel => exact ⟨_, (decide (a0 < 57344)), es_, H', ⟨by first | omega | exact Nat.le_refl _⟩, ⟨hb_ HB⟩⟩
    ·rw [if_neg c5] at H
     have c5b0 : decide (55296 ≤ a0) = false := decide_eq_false c5
     clear c5
     have H' := Aside0.mk H
     clear H
     go_wp2
     go_meet
     case rel => exact ⟨_, (false), es_, H', ⟨by first | omega | exact Nat.le_refl _⟩, ⟨hb_ HB⟩⟩
 case rest =>
  clear HC2
  obtain ⟨kq, x16_1, rfl, HA, HJ1, HB⟩ := hcut
  cases kq with
  | zero => exact absurd HA.out (by simp [calamusref03_Bytes.j0])
  | succ kj1 =>
   have H := HA.out
   clear HA
   simp only [calamusref03_Bytes.j0] at H
   by_cases c6 : x16_1 = true
   ·subst c6
    have H1 : (some (⟨#[]⟩ : ByteArray)) = some r := by rw [if_pos rfl] at H; exact H
    clear H
    have H := H1
    clear H1
    obtain rfl := Option.some.inj H
    go_wp2
    go_ret
    exact ⟨er_, hb_ HB⟩
   ·replace c6 := Bool.eq_false_iff.mpr c6
    subst c6
    have H1 : (if a0 < 128 then (some (strOfNums (([(a0) % 256] : List Int)))) else (if a0 < 2048 then (some (strOfNums (([(wrap64 (192 + (wrap64 (Int.tdiv a0 64)))) % 256, (wrap64 (128 + (Int.tmod a0 64))) % 256] : List Int)))) else (if a0 < 65536 then (some (strOfNums (([(wrap64 (224 + (wrap64 (Int.tdiv a0 4096)))) % 256, (wrap64 (128 + (Int.tmod (wrap64 (Int.tdiv a0 64)) 64))) % 256, (wrap64 (128 + (Int.tmod a0 64))) % 256] : List Int)))) else (some (strOfNums (([(wrap64 (240 + (wrap64 (Int.tdiv a0 262144)))) % 256, (wrap64 (128 + (Int.tmod (wrap64 (Int.tdiv a0 4096)) 64))) % 256, (wrap64 (128 + (Int.tmod (wrap64 (Int.tdiv a0 64)) 64))) % 256, (wrap64 (128 + (Int.tmod a0 64))) % 256] : List Int))))))) = some r := by rw [if_neg (show ¬ (false = true) by decide)] at H; exact H
    clear H
    have H := H1
    clear H1
    by_cases c7 : a0 < 128
    ·rw [if_pos c7] at H
     have c7b0 : decide (a0 < 128) = true := decide_eq_true c7
     clear c7
     obtain ⟨y121, hy121⟩ : ∃ y_ : List Int, y_ = (([(a0) % 256] : List Int)) := ⟨_, rfl⟩
     replace H : (some (strOfNums y121)) = some r := th_ H hy121
     have Ny121 := Aside0.mk hy121
     clear hy121
     obtain rfl := Option.some.inj H
     go_wp2_with (first | ((with_reducible refine gate_dst (N := 21) rfl ?_); refine Kd.R_lit (Kd.int .u8) _ 5 ?hg (N := 21) ?hd (xs := ([(a0) % 256] : List Int)) (inner := [.int .u8 ((a0) % 256)]) (ok := fun _ => True) (okp := fun _ => True) ?hr ?hp (fun _ hk => hk) trivial (Below.refl _ _) (Nat.le_refl _) (by simp) ?_; (case hd => rfl); (case hg => rfl); (case hr => first | (go_simp; done) | (go_simp; rfl)); (case hp => exact (Reps.one (show Kd.M (Kd.int .u8) _ _ _ ((a0) % 256) [.int .u8 ((a0) % 256)] from rfl) (Reps.none _ _))); intro v122 w8 ho9 hb hg_ hnew_; clear hg_ hnew_; (first | rw [← Ny121.out] at ho9 | (simp only [Int.reduceToNat] at ho9; rw [← Ny121.out] at ho9)); have HO123 := Aside0.mk (Kd.R_lower ho9 (below_size (hb_ HB))); replace HB := bs_ HB hb; clear hb ho9; have hcv10 := own_string (P := Try.prog) Try.underlying84 Try.underlying5 Try.underlying9 (Kd.own_of_R HO123.out)))
     go_ret
     exact ⟨er_, hb_ HB⟩
    ·rw [if_neg c7] at H
     have c7b0 : decide (a0 < 128) = false := decide_eq_false c7
     clear c7
     by_cases c11 : a0 < 2048
     ·rw [if_pos c11] at H
      have c11b0 : decide (a0 < 2048) = true := decide_eq_true c11
      clear c11
      obtain ⟨y124, hy124⟩ : ∃ y_ : List Int, y_ = (([(wrap64 (192 + (wrap64 (Int.tdiv a0 64)))) % 256, (wrap64 (128 + (Int.tmod a0 64))) % 256] : List Int)) := ⟨_, rfl⟩
      replace H : (some (strOfNums y124)) = some r := th_ H hy124
      have Ny124 := Aside0.mk hy124
      clear hy124
      obtain rfl := Option.some.inj H
      go_wp2_with (first | ((with_reducible refine gate_dst (N := 33) rfl ?_); refine Kd.R_lit (Kd.int .u8) _ 5 ?hg (N := 33) ?hd (xs := ([(wrap64 (192 + (wrap64 (Int.tdiv a0 64)))) % 256, (wrap64 (128 + (Int.tmod a0 64))) % 256] : List Int)) (inner := [.int .u8 ((wrap64 (192 + (wrap64 (Int.tdiv a0 64)))) % 256), .int .u8 ((wrap64 (128 + (Int.tmod a0 64))) % 256)]) (ok := fun _ => True) (okp := fun _ => True) ?hr ?hp (fun _ hk => hk) trivial (Below.refl _ _) (Nat.le_refl _) (by simp) ?_; (case hd => rfl); (case hg => rfl); (case hr => first | (go_simp; done) | (go_simp; rfl)); (case hp => exact (Reps.one (show Kd.M (Kd.int .u8) _ _ _ ((wrap64 (192 + (wrap64 (Int.tdiv a0 64)))) % 256) [.int .u8 ((wrap64 (192 + (wrap64 (Int.tdiv a0 64)))) % 256)] from rfl) (Reps.one (show Kd.M (Kd.int .u8) _ _ _ ((wrap64 (128 + (Int.tmod a0 64))) % 256) [.int .u8 ((wrap64 (128 + (Int.tmod a0 64))) % 256)] from rfl) (Reps.none _ _)))); intro v125 w12 ho13 hb hg_ hnew_; clear hg_ hnew_; (first | rw [← Ny124.out] at ho13 | (simp only [Int.reduceToNat] at ho13; rw [← Ny124.out] at ho13)); have HO126 := Aside0.mk (Kd.R_lower ho13 (below_size (hb_ HB))); replace HB := bs_ HB hb; clear hb ho13; have hcv14 := own_string (P := Try.prog) Try.underlying84 Try.underlying5 Try.underlying9 (Kd.own_of_R HO126.out)))
      go_ret
      exact ⟨er_, hb_ HB⟩
     ·rw [if_neg c11] at H
      have c11b0 : decide (a0 < 2048) = false := decide_eq_false c11
      clear c11
      by_cases c15 : a0 < 65536
      ·rw [if_pos c15] at H
       have c15b0 : decide (a0 < 65536) = true := decide_eq_true c15
       clear c15
       obtain ⟨y127, hy127⟩ : ∃ y_ : List Int, y_ = (([(wrap64 (224 + (wrap64 (Int.tdiv a0 4096)))) % 256, (wrap64 (128 + (Int.tmod (wrap64 (Int.tdiv a0 64)) 64))) % 256, (wrap64 (128 + (Int.tmod a0 64))) % 256] : List Int)) := ⟨_, rfl⟩
       replace H : (some (strOfNums y127)) = some r := th_ H hy127
       have Ny127 := Aside0.mk hy127
       clear hy127
       obtain rfl := Option.some.inj H
       go_wp2_with (first | ((with_reducible refine gate_dst (N := 50) rfl ?_); refine Kd.R_lit (Kd.int .u8) _ 5 ?hg (N := 50) ?hd (xs := ([(wrap64 (224 + (wrap64 (Int.tdiv a0 4096)))) % 256, (wrap64 (128 + (Int.tmod (wrap64 (Int.tdiv a0 64)) 64))) % 256, (wrap64 (128 + (Int.tmod a0 64))) % 256] : List Int)) (inner := [.int .u8 ((wrap64 (224 + (wrap64 (Int.tdiv a0 4096)))) % 256), .int .u8 ((wrap64 (128 + (Int.tmod (wrap64 (Int.tdiv a0 64)) 64))) % 256), .int .u8 ((wrap64 (128 + (Int.tmod a0 64))) % 256)]) (ok := fun _ => True) (okp := fun _ => True) ?hr ?hp (fun _ hk => hk) trivial (Below.refl _ _) (Nat.le_refl _) (by simp) ?_; (case hd => rfl); (case hg => rfl); (case hr => first | (go_simp; done) | (go_simp; rfl)); (case hp => exact (Reps.one (show Kd.M (Kd.int .u8) _ _ _ ((wrap64 (224 + (wrap64 (Int.tdiv a0 4096)))) % 256) [.int .u8 ((wrap64 (224 + (wrap64 (Int.tdiv a0 4096)))) % 256)] from rfl) (Reps.one (show Kd.M (Kd.int .u8) _ _ _ ((wrap64 (128 + (Int.tmod (wrap64 (Int.tdiv a0 64)) 64))) % 256) [.int .u8 ((wrap64 (128 + (Int.tmod (wrap64 (Int.tdiv a0 64)) 64))) % 256)] from rfl) (Reps.one (show Kd.M (Kd.int .u8) _ _ _ ((wrap64 (128 + (Int.tmod a0 64))) % 256) [.int .u8 ((wrap64 (128 + (Int.tmod a0 64))) % 256)] from rfl) (Reps.none _ _))))); intro v128 w16 ho17 hb hg_ hnew_; clear hg_ hnew_; (first | rw [← Ny127.out] at ho17 | (simp only [Int.reduceToNat] at ho17; rw [← Ny127.out] at ho17)); have HO129 := Aside0.mk (Kd.R_lower ho17 (below_size (hb_ HB))); replace HB := bs_ HB hb; clear hb ho17; have hcv18 := own_string (P := Try.prog) Try.underlying84 Try.underlying5 Try.underlying9 (Kd.own_of_R HO129.out)))
       go_ret
       exact ⟨er_, hb_ HB⟩
      ·rw [if_neg c15] at H
       have c15b0 : decide (a0 < 65536) = false := decide_eq_false c15
       clear c15
       obtain ⟨y130, hy130⟩ : ∃ y_ : List Int, y_ = (([(wrap64 (240 + (wrap64 (Int.tdiv a0 262144)))) % 256, (wrap64 (128 + (Int.tmod (wrap64 (Int.tdiv a0 4096)) 64))) % 256, (wrap64 (128 + (Int.tmod (wrap64 (Int.tdiv a0 64)) 64))) % 256, (wrap64 (128 + (Int.tmod a0 64))) % 256] : List Int)) := ⟨_, rfl⟩
       replace H : (some (strOfNums y130)) = some r := th_ H hy130
       have Ny130 := Aside0.mk hy130
       clear hy130
       obtain rfl := Option.some.inj H
       go_wp2_with (first | ((with_reducible refine gate_dst (N := 70) rfl ?_); refine Kd.R_lit (Kd.int .u8) _ 5 ?hg (N := 70) ?hd (xs := ([(wrap64 (240 + (wrap64 (Int.tdiv a0 262144)))) % 256, (wrap64 (128 + (Int.tmod (wrap64 (Int.tdiv a0 4096)) 64))) % 256, (wrap64 (128 + (Int.tmod (wrap64 (Int.tdiv a0 64)) 64))) % 256, (wrap64 (128 + (Int.tmod a0 64))) % 256] : List Int)) (inner := [.int .u8 ((wrap64 (240 + (wrap64 (Int.tdiv a0 262144)))) % 256), .int .u8 ((wrap64 (128 + (Int.tmod (wrap64 (Int.tdiv a0 4096)) 64))) % 256), .int .u8 ((wrap64 (128 + (Int.tmod (wrap64 (Int.tdiv a0 64)) 64))) % 256), .int .u8 ((wrap64 (128 + (Int.tmod a0 64))) % 256)]) (ok := fun _ => True) (okp := fun _ => True) ?hr ?hp (fun _ hk => hk) trivial (Below.refl _ _) (Nat.le_refl _) (by simp) ?_; (case hd => rfl); (case hg => rfl); (case hr => first | (go_simp; done) | (go_simp; rfl)); (case hp => exact (Reps.one (show Kd.M (Kd.int .u8) _ _ _ ((wrap64 (240 + (wrap64 (Int.tdiv a0 262144)))) % 256) [.int .u8 ((wrap64 (240 + (wrap64 (Int.tdiv a0 262144)))) % 256)] from rfl) (Reps.one (show Kd.M (Kd.int .u8) _ _ _ ((wrap64 (128 + (Int.tmod (wrap64 (Int.tdiv a0 4096)) 64))) % 256) [.int .u8 ((wrap64 (128 + (Int.tmod (wrap64 (Int.tdiv a0 4096)) 64))) % 256)] from rfl) (Reps.one (show Kd.M (Kd.int .u8) _ _ _ ((wrap64 (128 + (Int.tmod (wrap64 (Int.tdiv a0 64)) 64))) % 256) [.int .u8 ((wrap64 (128 + (Int.tmod (wrap64 (Int.tdiv a0 64)) 64))) % 256)] from rfl) (Reps.one (show Kd.M (Kd.int .u8) _ _ _ ((wrap64 (128 + (Int.tmod a0 64))) % 256) [.int .u8 ((wrap64 (128 + (Int.tmod a0 64))) % 256)] from rfl) (Reps.none _ _)))))); intro v131 w19 ho20 hb hg_ hnew_; clear hg_ hnew_; (first | rw [← Ny130.out] at ho20 | (simp only [Int.reduceToNat] at ho20; rw [← Ny130.out] at ho20)); have HO132 := Aside0.mk (Kd.R_lower ho20 (below_size (hb_ HB))); replace HB := bs_ HB hb; clear hb ho20; have hcv21 := own_string (P := Try.prog) Try.underlying84 Try.underlying5 Try.underlying9 (Kd.own_of_R HO132.out)))
       go_ret
       exact ⟨er_, hb_ HB⟩

end Go.Proofs.Ytealbonfaebikaa.PKeyTexts
