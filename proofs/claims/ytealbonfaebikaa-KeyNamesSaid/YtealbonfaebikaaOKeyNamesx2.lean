/- Of the law calamus/calamuslaw13.KeyNames: each function as a plain Lean function, with a proof that the call comes to it; the row. By wip/tpl/own_print.py. Conditions: none but the row's own. -/
import Derived.Test.YtealbonfaebikaaOKeyNamesx0
import Derived.Test.YtealbonfaebikaaOKeyNamesx1
namespace Go.Proofs.Ytealbonfaebikaa.PKeyNames
open Go.RowKit Go.Proofs.YtealbonfaebikaaW.PrintWords Go.Proofs.YtealbonfaebikaaW.PrintLast Go.Proofs.YtealbonfaebikaaW.PrintMore
attribute [local go_sem] max2_int min2_int max_two min_two max_three min_three max_four min_four   -- for this text's walks alone
set_option linter.unusedVariables false
set_option linter.unusedSimpArgs false

/-! ### key_Sign: function 39 -/
def key_Sign.f (k : Nat) (a0 : ByteArray) : Option (Bool) := (utf_Count.f k a0).bind fun t110 => (if t110 = 1 then (if (a0.size : Int) > 1 then (some true) else (if 0 < (a0.size : Int) then (if (bt a0 0) ≥ 32 then (some (decide ((bt a0 0) < 127))) else (some false)) else (none))) else (some false))
theorem key_Sign.mono : ∀ a0 k, LeO (key_Sign.f k a0) (key_Sign.f (k + 1) a0) := by
 intro a0 k
 unfold key_Sign.f
 repeat' first
   | (with_reducible exact utf_Count.mono _ _)
   | (with_reducible exact LeO.refl _)
   | (with_reducible exact LeO.none _)
   | (with_reducible refine LeO.ite ?_ ?_)
   | (with_reducible refine LeO.bind ?_ (fun _ => ?_))
   | exact utf_Count.mono _ _
   | exact LeO.none _
   | refine LeO.ite ?_ ?_
   | refine LeO.bind ?_ (fun _ => ?_)
set_option maxHeartbeats 8000000 in
set_option maxRecDepth 100000 in
theorem key_Sign.calls (k : Nat) (a0 : ByteArray) (r : Bool) (w : World) (h : key_Sign.f k a0 = some r) :
  Calls Try.prog 39 #[.string a0] w fun e w' => e = .returned (.bool r) ∧ Below w.heap.size w w' := by
 have HB := Aside0.mk (Below.refl w.heap.size w)
 have H : ((utf_Count.f k a0).bind fun t110 => (if t110 = 1 then (if (a0.size : Int) > 1 then (some true) else (if 0 < (a0.size : Int) then (if (bt a0 0) ≥ 32 then (some (decide ((bt a0 0) < 127))) else (some false)) else (none))) else (some false))) = some r := h
 clear h
 replace H := Option.bind_eq_some_iff.mp H
 obtain ⟨t110, A20, H⟩ := H
 replace H : (if t110 = 1 then (if (a0.size : Int) > 1 then (some true) else (if 0 < (a0.size : Int) then (if (bt a0 0) ≥ 32 then (some (decide ((bt a0 0) < 127))) else (some false)) else (none))) else (some false)) = some r := H
 have A2 := Aside0.mk A20
 clear A20
 by_cases c3 : t110 = 1
 ·rw [if_pos c3] at H
  have c3b0 : (t110 == 1) = true := beq_iff_eq.mpr c3
  have c3b1 : (t110 != 1) = false := bne_eq_false_iff_eq.mpr c3
  clear c3
  by_cases c4 : (a0.size : Int) > 1
  ·rw [if_pos c4] at H
   have c4b0 : decide (1 < (a0.size : Int)) = true := decide_eq_true c4
   have c4b1 : decide (1 < a0.size) = true := decide_eq_true (by omega)
   clear c4
   obtain rfl := Option.some.inj H
   go_enter Try.func39, Try.ntmps39
   go_wp2_with (first | ((with_reducible refine gate_callee (f := 71) rfl ?_); refine ge_ (some 4) rfl rfl Try.func71 (by kernel_rfl) rfl #[.string a0] rfl (h := ?_); (with_reducible refine (utf_Count.calls k a0 t110 _ A2.out).mono ?_); rintro e w5 ⟨rfl, hb⟩; refine ⟨_, rfl, ?_⟩; replace HB := bs_ HB hb; (try clear hb); (try clear hb2); (try clear hk); (try clear hi)))
   go_ret
   exact ⟨er_, hb_ HB⟩
  ·rw [if_neg c4] at H
   have c4b0 : decide (1 < (a0.size : Int)) = false := decide_eq_false c4
   have c4b1 : decide (1 < a0.size) = false := decide_eq_false (by omega)
   clear c4
   by_cases c6 : 0 < (a0.size : Int)
   ·rw [if_pos c6] at H
    have c6b0 : decide (0 < (a0.size : Int)) = true := decide_eq_true c6
    have c6b1 : decide (0 < a0.size) = true := decide_eq_true (by omega)
    clear c6
    by_cases c8 : (bt a0 0) ≥ 32
    ·rw [if_pos c8] at H
     have c8b0 : decide (32 ≤ (bt a0 0)) = true := decide_eq_true c8
     clear c8
     obtain rfl := Option.some.inj H
     go_enter Try.func39, Try.ntmps39
     go_wp2_with (first | ((with_reducible refine gate_callee (f := 71) rfl ?_); refine ge_ (some 4) rfl rfl Try.func71 (by kernel_rfl) rfl #[.string a0] rfl (h := ?_); (with_reducible refine (utf_Count.calls k a0 t110 _ A2.out).mono ?_); rintro e w10 ⟨rfl, hb⟩; refine ⟨_, rfl, ?_⟩; replace HB := bs_ HB hb; (try clear hb); (try clear hb2); (try clear hk); (try clear hi); have p7 : 0 ≤ (0 : Int) := (by omega); have q7 : 0 < a0.size := (by have : (0 : Int) < (a0.size : Int) := of_decide_eq_true as_; omega); have hx7 : ∀ h : 0 < a0.size, ((a0[0]'h).toNat : Int) = bt a0 0 := bt_at a0 0; clear p7; have qi7 : (0 < (a0.size : Int)) = True := eq_true (of_decide_eq_true as_); replace q7 := eq_true q7; have p9 : 0 ≤ (0 : Int) := (by omega); have q9 : 0 < a0.size := (by have : (0 : Int) < (a0.size : Int) := of_decide_eq_true as_; omega); have hx9 : ∀ h : 0 < a0.size, ((a0[0]'h).toNat : Int) = bt a0 0 := bt_at a0 0; clear p9; have qi9 : (0 < (a0.size : Int)) = True := eq_true (of_decide_eq_true as_); replace q9 := eq_true q9))
     go_ret
     exact ⟨er_, hb_ HB⟩
    ·rw [if_neg c8] at H
     have c8b0 : decide (32 ≤ (bt a0 0)) = false := decide_eq_false c8
     clear c8
     obtain rfl := Option.some.inj H
     go_enter Try.func39, Try.ntmps39
     go_wp2_with (first | ((with_reducible refine gate_callee (f := 71) rfl ?_); refine ge_ (some 4) rfl rfl Try.func71 (by kernel_rfl) rfl #[.string a0] rfl (h := ?_); (with_reducible refine (utf_Count.calls k a0 t110 _ A2.out).mono ?_); rintro e w11 ⟨rfl, hb⟩; refine ⟨_, rfl, ?_⟩; replace HB := bs_ HB hb; (try clear hb); (try clear hb2); (try clear hk); (try clear hi); have p7 : 0 ≤ (0 : Int) := (by omega); have q7 : 0 < a0.size := (by have : (0 : Int) < (a0.size : Int) := of_decide_eq_true as_; omega); have hx7 : ∀ h : 0 < a0.size, ((a0[0]'h).toNat : Int) = bt a0 0 := bt_at a0 0; clear p7; have qi7 : (0 < (a0.size : Int)) = True := eq_true (of_decide_eq_true as_); replace q7 := eq_true q7))
     go_ret
     exact ⟨er_, hb_ HB⟩
   ·rw [if_neg c6] at H
    exact absurd H (by simp)
 ·rw [if_neg c3] at H
  have c3b0 : (t110 == 1) = false := beq_eq_false_iff_ne.mpr c3
  have c3b1 : (t110 != 1) = true := bne_iff_ne.mpr c3
  obtain rfl := Option.some.inj H
  go_enter Try.func39, Try.ntmps39
  go_wp2_with (first | ((with_reducible refine gate_callee (f := 71) rfl ?_); refine ge_ (some 4) rfl rfl Try.func71 (by kernel_rfl) rfl #[.string a0] rfl (h := ?_); (with_reducible refine (utf_Count.calls k a0 t110 _ A2.out).mono ?_); rintro e w12 ⟨rfl, hb⟩; refine ⟨_, rfl, ?_⟩; replace HB := bs_ HB hb; (try clear hb); (try clear hb2); (try clear hk); (try clear hi)))
  go_ret
  exact ⟨er_, hb_ HB⟩

/-! ### key_Right: function 37, by hand (key.Right.lean) -/
/-- The names, key by key. -/
def nmT : List (ByteArray × ByteArray) := [(⟨#[8]⟩, ⟨#[60, 66, 97, 99, 107, 62]⟩), (⟨#[9]⟩, ⟨#[60, 84, 97, 98, 62]⟩), (⟨#[13]⟩, ⟨#[60, 69, 110, 116, 101, 114, 62]⟩), (⟨#[18]⟩, ⟨#[60, 82, 101, 100, 111, 62]⟩), (⟨#[21]⟩, ⟨#[60, 87, 105, 112, 101, 62]⟩), (⟨#[23]⟩, ⟨#[60, 67, 104, 111, 112, 62]⟩), (⟨#[27]⟩, ⟨#[60, 69, 115, 99, 62]⟩), (⟨#[60]⟩, ⟨#[60, 108, 116, 62]⟩)]
def nmE : Array MapEntry := #[{ key := .string ⟨#[8]⟩, val := .string ⟨#[60, 66, 97, 99, 107, 62]⟩, born := 0 }, { key := .string ⟨#[9]⟩, val := .string ⟨#[60, 84, 97, 98, 62]⟩, born := 1 }, { key := .string ⟨#[13]⟩, val := .string ⟨#[60, 69, 110, 116, 101, 114, 62]⟩, born := 2 }, { key := .string ⟨#[18]⟩, val := .string ⟨#[60, 82, 101, 100, 111, 62]⟩, born := 3 }, { key := .string ⟨#[21]⟩, val := .string ⟨#[60, 87, 105, 112, 101, 62]⟩, born := 4 }, { key := .string ⟨#[23]⟩, val := .string ⟨#[60, 67, 104, 111, 112, 62]⟩, born := 5 }, { key := .string ⟨#[27]⟩, val := .string ⟨#[60, 69, 115, 99, 62]⟩, born := 6 }, { key := .string ⟨#[60]⟩, val := .string ⟨#[60, 108, 116, 62]⟩, born := 7 }]
def nmV (s : ByteArray) : Option ByteArray := (nmT.find? fun p => s == p.1).map (·.2)
theorem alloc_put (w : World) (o o' : Obj) : { w.alloc o with heap := (w.alloc o).heap.setIfInBounds w.heap.size o' } = w.alloc o' := by
 show ({ heap := (w.heap.push o).setIfInBounds w.heap.size o', tape := w.tape, drawn := w.drawn, os := w.os, output := w.output } : World) = { heap := w.heap.push o', tape := w.tape, drawn := w.drawn, os := w.os, output := w.output }
 congr 1
 apply Array.ext
 ·simp
 ·intro i h1 h2
  simp at h1 h2
  rw [Array.getElem_setIfInBounds (by simpa using h1), Array.getElem_push, Array.getElem_push]
  by_cases h : w.heap.size = i
  ·simp [h]
  ·rw [if_neg h, dif_pos (by omega), dif_pos (by omega)]
theorem run_insert_new {P : Program} (w : World) (mty kt et clock : Nat) (es : Array MapEntry) (s : ByteArray) (val : Value) (hm : P.underlying mty = some (.map kt et)) (hk : P.underlying kt = some .string)
  (hf : Instr.findNow .string (.string s) es.toList 0 = some none) :
  (Instr.mapUpdate mty (.map (some w.heap.size)) (.string s) val).run P (w.alloc (.map es clock)) = .ok () (w.alloc (.map (es.push { key := .string s, val := val, born := clock }) (clock + 1))) := by
 have hb := (MapKept.heap_alloc w (.map es clock)).1
 have hc : (Instr.checkKey false 10000 kt (.string s)).run P (w.alloc (.map es clock)) = .ok () (w.alloc (.map es clock)) := MapKept.run_checkKey (k := .string s) hk (by simp [MapKept.IsKey]) false 9999
 simp [Instr.mapUpdate, run_underlying hm, MapKept.run_getObj_map hb, hc, MapKept.run_findKey hk hf, MapKept.run_setObj_map _ hb, Result.andThen]
 exact alloc_put w _ _
theorem findNow_names (s : ByteArray) : ∃ a, Instr.findNow .string (.string s) nmE.toList 0 = some a ∧ (match a with | some (_, v) => (v, true) | none => (Value.string ⟨#[]⟩, false)) = (Value.string ((nmV s).getD ⟨#[]⟩), (nmV s).isSome) := by
 simp only [nmE, nmV, nmT, List.find?, Instr.findNow, Instr.sameNow]
 generalize (s == (⟨#[8]⟩ : ByteArray)) = b8
 generalize (s == (⟨#[9]⟩ : ByteArray)) = b9
 generalize (s == (⟨#[13]⟩ : ByteArray)) = b13
 generalize (s == (⟨#[18]⟩ : ByteArray)) = b18
 generalize (s == (⟨#[21]⟩ : ByteArray)) = b21
 generalize (s == (⟨#[23]⟩ : ByteArray)) = b23
 generalize (s == (⟨#[27]⟩ : ByteArray)) = b27
 generalize (s == (⟨#[60]⟩ : ByteArray)) = b60
 cases b8
 case true => exact ⟨_, rfl, rfl⟩
 cases b9
 case true => exact ⟨_, rfl, rfl⟩
 cases b13
 case true => exact ⟨_, rfl, rfl⟩
 cases b18
 case true => exact ⟨_, rfl, rfl⟩
 cases b21
 case true => exact ⟨_, rfl, rfl⟩
 cases b23
 case true => exact ⟨_, rfl, rfl⟩
 cases b27
 case true => exact ⟨_, rfl, rfl⟩
 cases b60
 case true => exact ⟨_, rfl, rfl⟩
 exact ⟨_, rfl, rfl⟩
theorem run_names (s : ByteArray) (W : World) (r : Nat) (h : W.heap[r]? = some (.map nmE 8)) (hm : Try.prog.underlying 109 = some (.map 9 9)) (hk : Try.prog.underlying 9 = some .string) (hz : (zeroValue 9).run Try.prog W = .ok (.string ⟨#[]⟩) W) :
  (Instr.lookup 109 (.map (some r)) (.string s) true).run Try.prog W = .ok (.tuple #[.string ((nmV s).getD ⟨#[]⟩), .bool (nmV s).isSome]) W := by
 obtain ⟨a, ha, hv⟩ := findNow_names s
 have hc : ∀ e, (Instr.checkKey e 10000 9 (.string s)).run Try.prog W = .ok () W := fun e => MapKept.run_checkKey (k := .string s) hk (by simp [MapKept.IsKey]) e 9999
 have hf := MapKept.run_findKey (w := W) hk ha
 cases a with
 | none =>
  simp only [Prod.mk.injEq] at hv
  simp [Instr.lookup, run_underlying hm, MapKept.run_getObj_map h, hc, hf, hz, Result.andThen, ← hv.1, ← hv.2]
 | some x =>
  obtain ⟨i, v⟩ := x
  simp only [Prod.mk.injEq] at hv
  simp [Instr.lookup, run_underlying hm, MapKept.run_getObj_map h, hc, hf, hz, Result.andThen, ← hv.1, ← hv.2]
theorem zero_str (W : World) : (zeroValue 9).run Try.prog W = .ok (.string ⟨#[]⟩) W := by kernel_rfl
set_option maxHeartbeats 1000000 in
set_option maxRecDepth 100000 in
theorem key_names.calls (w : World) : Calls Try.prog 70 #[] w fun e w' => e = .returned (.map (some w.heap.size)) ∧ w' = w.alloc (.map nmE 8) := by
 have hmm := @run_makeMap Try.prog
 have hm : Try.prog.underlying 109 = some (.map 9 9) := by kernel_rfl
 have hk : Try.prog.underlying 9 = some .string := by kernel_rfl
 have h0 : (Instr.mapUpdate 109 (.map (some w.heap.size)) (.string ⟨#[8]⟩) (.string ⟨#[60, 66, 97, 99, 107, 62]⟩)).run Try.prog (w.alloc (.map #[] 0)) = .ok () (w.alloc (.map #[{ key := .string ⟨#[8]⟩, val := .string ⟨#[60, 66, 97, 99, 107, 62]⟩, born := 0 }] 1)) := run_insert_new (P := Try.prog) w 109 9 9 0 #[] ⟨#[8]⟩ (.string ⟨#[60, 66, 97, 99, 107, 62]⟩) hm hk (by rfl)
 have h1 : (Instr.mapUpdate 109 (.map (some w.heap.size)) (.string ⟨#[9]⟩) (.string ⟨#[60, 84, 97, 98, 62]⟩)).run Try.prog (w.alloc (.map #[{ key := .string ⟨#[8]⟩, val := .string ⟨#[60, 66, 97, 99, 107, 62]⟩, born := 0 }] 1)) = .ok () (w.alloc (.map #[{ key := .string ⟨#[8]⟩, val := .string ⟨#[60, 66, 97, 99, 107, 62]⟩, born := 0 }, { key := .string ⟨#[9]⟩, val := .string ⟨#[60, 84, 97, 98, 62]⟩, born := 1 }] 2)) := run_insert_new (P := Try.prog) w 109 9 9 1 #[{ key := .string ⟨#[8]⟩, val := .string ⟨#[60, 66, 97, 99, 107, 62]⟩, born := 0 }] ⟨#[9]⟩ (.string ⟨#[60, 84, 97, 98, 62]⟩) hm hk (by rfl)
 have h2 : (Instr.mapUpdate 109 (.map (some w.heap.size)) (.string ⟨#[13]⟩) (.string ⟨#[60, 69, 110, 116, 101, 114, 62]⟩)).run Try.prog (w.alloc (.map #[{ key := .string ⟨#[8]⟩, val := .string ⟨#[60, 66, 97, 99, 107, 62]⟩, born := 0 }, { key := .string ⟨#[9]⟩, val := .string ⟨#[60, 84, 97, 98, 62]⟩, born := 1 }] 2)) = .ok () (w.alloc (.map #[{ key := .string ⟨#[8]⟩, val := .string ⟨#[60, 66, 97, 99, 107, 62]⟩, born := 0 }, { key := .string ⟨#[9]⟩, val := .string ⟨#[60, 84, 97, 98, 62]⟩, born := 1 }, { key := .string ⟨#[13]⟩, val := .string ⟨#[60, 69, 110, 116, 101, 114, 62]⟩, born := 2 }] 3)) := run_insert_new (P := Try.prog) w 109 9 9 2 #[{ key := .string ⟨#[8]⟩, val := .string ⟨#[60, 66, 97, 99, 107, 62]⟩, born := 0 }, { key := .string ⟨#[9]⟩, val := .string ⟨#[60, 84, 97, 98, 62]⟩, born := 1 }] ⟨#[13]⟩ (.string ⟨#[60, 69, 110, 116, 101, 114, 62]⟩) hm hk (by rfl)
 have h3 : (Instr.mapUpdate 109 (.map (some w.heap.size)) (.string ⟨#[18]⟩) (.string ⟨#[60, 82, 101, 100, 111, 62]⟩)).run Try.prog (w.alloc (.map #[{ key := .string ⟨#[8]⟩, val := .string ⟨#[60, 66, 97, 99, 107, 62]⟩, born := 0 }, { key := .string ⟨#[9]⟩, val := .string ⟨#[60, 84, 97, 98, 62]⟩, born := 1 }, { key := .string ⟨#[13]⟩, val := .string ⟨#[60, 69, 110, 116, 101, 114, 62]⟩, born := 2 }] 3)) = .ok () (w.alloc (.map #[{ key := .string ⟨#[8]⟩, val := .string ⟨#[60, 66, 97, 99, 107, 62]⟩, born := 0 }, { key := .string ⟨#[9]⟩, val := .string ⟨#[60, 84, 97, 98, 62]⟩, born := 1 }, { key := .string ⟨#[13]⟩, val := .string ⟨#[60, 69, 110, 116, 101, 114, 62]⟩, born := 2 }, { key := .string ⟨#[18]⟩, val := .string ⟨#[60, 82, 101, 100, 111, 62]⟩, born := 3 }] 4)) := run_insert_new (P := Try.prog) w 109 9 9 3 #[{ key := .string ⟨#[8]⟩, val := .string ⟨#[60, 66, 97, 99, 107, 62]⟩, born := 0 }, { key := .string ⟨#[9]⟩, val := .string ⟨#[60, 84, 97, 98, 62]⟩, born := 1 }, { key := .string ⟨#[13]⟩, val := .string ⟨#[60, 69, 110, 116, 101, 114, 62]⟩, born := 2 }] ⟨#[18]⟩ (.string ⟨#[60, 82, 101, 100, 111, 62]⟩) hm hk (by rfl)
 have h4 : (Instr.mapUpdate 109 (.map (some w.heap.size)) (.string ⟨#[21]⟩) (.string ⟨#[60, 87, 105, 112, 101, 62]⟩)).run Try.prog (w.alloc (.map #[{ key := .string ⟨#[8]⟩, val := .string ⟨#[60, 66, 97, 99, 107, 62]⟩, born := 0 }, { key := .string ⟨#[9]⟩, val := .string ⟨#[60, 84, 97, 98, 62]⟩, born := 1 }, { key := .string ⟨#[13]⟩, val := .string ⟨#[60, 69, 110, 116, 101, 114, 62]⟩, born := 2 }, { key := .string ⟨#[18]⟩, val := .string ⟨#[60, 82, 101, 100, 111, 62]⟩, born := 3 }] 4)) = .ok () (w.alloc (.map #[{ key := .string ⟨#[8]⟩, val := .string ⟨#[60, 66, 97, 99, 107, 62]⟩, born := 0 }, { key := .string ⟨#[9]⟩, val := .string ⟨#[60, 84, 97, 98, 62]⟩, born := 1 }, { key := .string ⟨#[13]⟩, val := .string ⟨#[60, 69, 110, 116, 101, 114, 62]⟩, born := 2 }, { key := .string ⟨#[18]⟩, val := .string ⟨#[60, 82, 101, 100, 111, 62]⟩, born := 3 }, { key := .string ⟨#[21]⟩, val := .string ⟨#[60, 87, 105, 112, 101, 62]⟩, born := 4 }] 5)) := run_insert_new (P := Try.prog) w 109 9 9 4 #[{ key := .string ⟨#[8]⟩, val := .string ⟨#[60, 66, 97, 99, 107, 62]⟩, born := 0 }, { key := .string ⟨#[9]⟩, val := .string ⟨#[60, 84, 97, 98, 62]⟩, born := 1 }, { key := .string ⟨#[13]⟩, val := .string ⟨#[60, 69, 110, 116, 101, 114, 62]⟩, born := 2 }, { key := .string ⟨#[18]⟩, val := .string ⟨#[60, 82, 101, 100, 111, 62]⟩, born := 3 }] ⟨#[21]⟩ (.string ⟨#[60, 87, 105, 112, 101, 62]⟩) hm hk (by rfl)
 have h5 : (Instr.mapUpdate 109 (.map (some w.heap.size)) (.string ⟨#[23]⟩) (.string ⟨#[60, 67, 104, 111, 112, 62]⟩)).run Try.prog (w.alloc (.map #[{ key := .string ⟨#[8]⟩, val := .string ⟨#[60, 66, 97, 99, 107, 62]⟩, born := 0 }, { key := .string ⟨#[9]⟩, val := .string ⟨#[60, 84, 97, 98, 62]⟩, born := 1 }, { key := .string ⟨#[13]⟩, val := .string ⟨#[60, 69, 110, 116, 101, 114, 62]⟩, born := 2 }, { key := .string ⟨#[18]⟩, val := .string ⟨#[60, 82, 101, 100, 111, 62]⟩, born := 3 }, { key := .string ⟨#[21]⟩, val := .string ⟨#[60, 87, 105, 112, 101, 62]⟩, born := 4 }] 5)) = .ok () (w.alloc (.map #[{ key := .string ⟨#[8]⟩, val := .string ⟨#[60, 66, 97, 99, 107, 62]⟩, born := 0 }, { key := .string ⟨#[9]⟩, val := .string ⟨#[60, 84, 97, 98, 62]⟩, born := 1 }, { key := .string ⟨#[13]⟩, val := .string ⟨#[60, 69, 110, 116, 101, 114, 62]⟩, born := 2 }, { key := .string ⟨#[18]⟩, val := .string ⟨#[60, 82, 101, 100, 111, 62]⟩, born := 3 }, { key := .string ⟨#[21]⟩, val := .string ⟨#[60, 87, 105, 112, 101, 62]⟩, born := 4 }, { key := .string ⟨#[23]⟩, val := .string ⟨#[60, 67, 104, 111, 112, 62]⟩, born := 5 }] 6)) := run_insert_new (P := Try.prog) w 109 9 9 5 #[{ key := .string ⟨#[8]⟩, val := .string ⟨#[60, 66, 97, 99, 107, 62]⟩, born := 0 }, { key := .string ⟨#[9]⟩, val := .string ⟨#[60, 84, 97, 98, 62]⟩, born := 1 }, { key := .string ⟨#[13]⟩, val := .string ⟨#[60, 69, 110, 116, 101, 114, 62]⟩, born := 2 }, { key := .string ⟨#[18]⟩, val := .string ⟨#[60, 82, 101, 100, 111, 62]⟩, born := 3 }, { key := .string ⟨#[21]⟩, val := .string ⟨#[60, 87, 105, 112, 101, 62]⟩, born := 4 }] ⟨#[23]⟩ (.string ⟨#[60, 67, 104, 111, 112, 62]⟩) hm hk (by rfl)
 have h6 : (Instr.mapUpdate 109 (.map (some w.heap.size)) (.string ⟨#[27]⟩) (.string ⟨#[60, 69, 115, 99, 62]⟩)).run Try.prog (w.alloc (.map #[{ key := .string ⟨#[8]⟩, val := .string ⟨#[60, 66, 97, 99, 107, 62]⟩, born := 0 }, { key := .string ⟨#[9]⟩, val := .string ⟨#[60, 84, 97, 98, 62]⟩, born := 1 }, { key := .string ⟨#[13]⟩, val := .string ⟨#[60, 69, 110, 116, 101, 114, 62]⟩, born := 2 }, { key := .string ⟨#[18]⟩, val := .string ⟨#[60, 82, 101, 100, 111, 62]⟩, born := 3 }, { key := .string ⟨#[21]⟩, val := .string ⟨#[60, 87, 105, 112, 101, 62]⟩, born := 4 }, { key := .string ⟨#[23]⟩, val := .string ⟨#[60, 67, 104, 111, 112, 62]⟩, born := 5 }] 6)) = .ok () (w.alloc (.map #[{ key := .string ⟨#[8]⟩, val := .string ⟨#[60, 66, 97, 99, 107, 62]⟩, born := 0 }, { key := .string ⟨#[9]⟩, val := .string ⟨#[60, 84, 97, 98, 62]⟩, born := 1 }, { key := .string ⟨#[13]⟩, val := .string ⟨#[60, 69, 110, 116, 101, 114, 62]⟩, born := 2 }, { key := .string ⟨#[18]⟩, val := .string ⟨#[60, 82, 101, 100, 111, 62]⟩, born := 3 }, { key := .string ⟨#[21]⟩, val := .string ⟨#[60, 87, 105, 112, 101, 62]⟩, born := 4 }, { key := .string ⟨#[23]⟩, val := .string ⟨#[60, 67, 104, 111, 112, 62]⟩, born := 5 }, { key := .string ⟨#[27]⟩, val := .string ⟨#[60, 69, 115, 99, 62]⟩, born := 6 }] 7)) := run_insert_new (P := Try.prog) w 109 9 9 6 #[{ key := .string ⟨#[8]⟩, val := .string ⟨#[60, 66, 97, 99, 107, 62]⟩, born := 0 }, { key := .string ⟨#[9]⟩, val := .string ⟨#[60, 84, 97, 98, 62]⟩, born := 1 }, { key := .string ⟨#[13]⟩, val := .string ⟨#[60, 69, 110, 116, 101, 114, 62]⟩, born := 2 }, { key := .string ⟨#[18]⟩, val := .string ⟨#[60, 82, 101, 100, 111, 62]⟩, born := 3 }, { key := .string ⟨#[21]⟩, val := .string ⟨#[60, 87, 105, 112, 101, 62]⟩, born := 4 }, { key := .string ⟨#[23]⟩, val := .string ⟨#[60, 67, 104, 111, 112, 62]⟩, born := 5 }] ⟨#[27]⟩ (.string ⟨#[60, 69, 115, 99, 62]⟩) hm hk (by rfl)
 have h7 : (Instr.mapUpdate 109 (.map (some w.heap.size)) (.string ⟨#[60]⟩) (.string ⟨#[60, 108, 116, 62]⟩)).run Try.prog (w.alloc (.map #[{ key := .string ⟨#[8]⟩, val := .string ⟨#[60, 66, 97, 99, 107, 62]⟩, born := 0 }, { key := .string ⟨#[9]⟩, val := .string ⟨#[60, 84, 97, 98, 62]⟩, born := 1 }, { key := .string ⟨#[13]⟩, val := .string ⟨#[60, 69, 110, 116, 101, 114, 62]⟩, born := 2 }, { key := .string ⟨#[18]⟩, val := .string ⟨#[60, 82, 101, 100, 111, 62]⟩, born := 3 }, { key := .string ⟨#[21]⟩, val := .string ⟨#[60, 87, 105, 112, 101, 62]⟩, born := 4 }, { key := .string ⟨#[23]⟩, val := .string ⟨#[60, 67, 104, 111, 112, 62]⟩, born := 5 }, { key := .string ⟨#[27]⟩, val := .string ⟨#[60, 69, 115, 99, 62]⟩, born := 6 }] 7)) = .ok () (w.alloc (.map #[{ key := .string ⟨#[8]⟩, val := .string ⟨#[60, 66, 97, 99, 107, 62]⟩, born := 0 }, { key := .string ⟨#[9]⟩, val := .string ⟨#[60, 84, 97, 98, 62]⟩, born := 1 }, { key := .string ⟨#[13]⟩, val := .string ⟨#[60, 69, 110, 116, 101, 114, 62]⟩, born := 2 }, { key := .string ⟨#[18]⟩, val := .string ⟨#[60, 82, 101, 100, 111, 62]⟩, born := 3 }, { key := .string ⟨#[21]⟩, val := .string ⟨#[60, 87, 105, 112, 101, 62]⟩, born := 4 }, { key := .string ⟨#[23]⟩, val := .string ⟨#[60, 67, 104, 111, 112, 62]⟩, born := 5 }, { key := .string ⟨#[27]⟩, val := .string ⟨#[60, 69, 115, 99, 62]⟩, born := 6 }, { key := .string ⟨#[60]⟩, val := .string ⟨#[60, 108, 116, 62]⟩, born := 7 }] 8)) := run_insert_new (P := Try.prog) w 109 9 9 7 #[{ key := .string ⟨#[8]⟩, val := .string ⟨#[60, 66, 97, 99, 107, 62]⟩, born := 0 }, { key := .string ⟨#[9]⟩, val := .string ⟨#[60, 84, 97, 98, 62]⟩, born := 1 }, { key := .string ⟨#[13]⟩, val := .string ⟨#[60, 69, 110, 116, 101, 114, 62]⟩, born := 2 }, { key := .string ⟨#[18]⟩, val := .string ⟨#[60, 82, 101, 100, 111, 62]⟩, born := 3 }, { key := .string ⟨#[21]⟩, val := .string ⟨#[60, 87, 105, 112, 101, 62]⟩, born := 4 }, { key := .string ⟨#[23]⟩, val := .string ⟨#[60, 67, 104, 111, 112, 62]⟩, born := 5 }, { key := .string ⟨#[27]⟩, val := .string ⟨#[60, 69, 115, 99, 62]⟩, born := 6 }] ⟨#[60]⟩ (.string ⟨#[60, 108, 116, 62]⟩) hm hk (by rfl)
 go_enter Try.func70, Try.ntmps70
 go_wp2
 go_ret
 exact ⟨rfl, rfl⟩

def key_Right.f (k : Nat) (a0 : ByteArray) : Option Bool := if (nmV a0).isSome = true then some true else ((key_Sign.f k a0).bind fun t1 => some t1)
theorem key_Right.mono : ∀ a0 k, LeO (key_Right.f k a0) (key_Right.f (k + 1) a0) := by
 intro a0 k
 unfold key_Right.f
 refine LeO.ite (LeO.refl _) (LeO.bind (key_Sign.mono _ _) (fun _ => LeO.refl _))
set_option maxHeartbeats 1000000 in
set_option maxRecDepth 100000 in
theorem key_Right.calls (k : Nat) (a0 : ByteArray) (r : Bool) (w : World) (h : key_Right.f k a0 = some r) :
  Calls Try.prog 37 #[.string a0] w fun e w' => e = .returned (.bool r) ∧ Below w.heap.size w w' := by
 have hL := run_names a0 (w.alloc (.map nmE 8)) w.heap.size (MapKept.heap_alloc w (.map nmE 8)).1 (by kernel_rfl) (by kernel_rfl) (zero_str _)
 have HB := below_alloc (Below.refl w.heap.size w) (.map nmE 8)
 unfold key_Right.f at h
 cases hv : nmV a0 with
 | some x =>
  rw [hv] at h hL
  obtain rfl : true = r := Option.some.inj h
  have hL' : (Instr.lookup 109 (.map (some w.heap.size)) (.string a0) true).run Try.prog (w.alloc (.map nmE 8)) = .ok (.tuple #[.string x, .bool true]) (w.alloc (.map nmE 8)) := hL
  clear hL
  go_enter Try.func37, Try.ntmps37
  go_wp2_with ((with_reducible refine gate_callee (f := 70) rfl ?_); refine ge_ (some 6) rfl rfl Try.func70 (by kernel_rfl) rfl #[] rfl (h := ?_); (with_reducible refine (key_names.calls _).mono ?_); rintro e w2 ⟨rfl, rfl⟩; refine ⟨_, rfl, ?_⟩)
  go_ret
  exact ⟨rfl, HB⟩
 | none =>
  rw [hv] at h hL
  obtain ⟨t1, A1, H⟩ := Option.bind_eq_some_iff.mp h
  obtain rfl : t1 = r := Option.some.inj H
  have hL' : (Instr.lookup 109 (.map (some w.heap.size)) (.string a0) true).run Try.prog (w.alloc (.map nmE 8)) = .ok (.tuple #[.string ⟨#[]⟩, .bool false]) (w.alloc (.map nmE 8)) := hL
  clear hL
  go_enter Try.func37, Try.ntmps37
  go_wp2_with (first | ((with_reducible refine gate_callee (f := 70) rfl ?_); refine ge_ (some 6) rfl rfl Try.func70 (by kernel_rfl) rfl #[] rfl (h := ?_); (with_reducible refine (key_names.calls _).mono ?_); rintro e w2 ⟨rfl, rfl⟩; refine ⟨_, rfl, ?_⟩) | (go_at_call 39; (with_reducible refine (key_Sign.calls k a0 t1 _ A1).mono ?_); rintro e w3 ⟨rfl, hb⟩))
  go_ret
  exact ⟨rfl, below_step HB hb⟩


/-! ### calamusref03_Bytes: function 102 -/
def calamusref03_Bytes.j0 : Nat → Int → Bool → Option (ByteArray)
 | 0, _, _ => none
 | k + 1, x0, x16 => if x16 = true then (some (⟨#[]⟩ : ByteArray)) else (if x0 < 128 then (some (strOfNums (([(x0) % 256] : List Int)))) else (if x0 < 2048 then (some (strOfNums (([(wrap64 (192 + (wrap64 (Int.tdiv x0 64)))) % 256, (wrap64 (128 + (Int.tmod x0 64))) % 256] : List Int)))) else (if x0 < 65536 then (some (strOfNums (([(wrap64 (224 + (wrap64 (Int.tdiv x0 4096)))) % 256, (wrap64 (128 + (Int.tmod (wrap64 (Int.tdiv x0 64)) 64))) % 256, (wrap64 (128 + (Int.tmod x0 64))) % 256] : List Int)))) else (some (strOfNums (([(wrap64 (240 + (wrap64 (Int.tdiv x0 262144)))) % 256, (wrap64 (128 + (Int.tmod (wrap64 (Int.tdiv x0 4096)) 64))) % 256, (wrap64 (128 + (Int.tmod (wrap64 (Int.tdiv x0 64)) 64))) % 256, (wrap64 (128 + (Int.tmod x0 64))) % 256] : List Int)))))))
def calamusref03_Bytes.f (k : Nat) (a0 : Int) : Option (ByteArray) := if a0 < 0 then (calamusref03_Bytes.j0 k a0 true) else (if a0 > 1114111 then (calamusref03_Bytes.j0 k a0 true) else (if a0 ≥ 55296 then (calamusref03_Bytes.j0 k a0 (decide (a0 < 57344))) else (calamusref03_Bytes.j0 k a0 false)))
theorem calamusref03_Bytes.mono_l : ∀ k, (∀ y0 y1, LeO (calamusref03_Bytes.j0 k y0 y1) (calamusref03_Bytes.j0 (k + 1) y0 y1))
 | 0 => fun _ _ r h => by simp [calamusref03_Bytes.j0] at h
 | k + 1 => by
  have ih0 := calamusref03_Bytes.mono_l k
  ·intro y0 y1
   unfold calamusref03_Bytes.j0
   repeat' first
   | (with_reducible exact ih0 _ _)
   | (with_reducible exact LeO.refl _)
   | (with_reducible exact LeO.none _)
   | (with_reducible refine LeO.ite ?_ ?_)
   | (with_reducible refine LeO.bind ?_ (fun _ => ?_))
   | exact ih0 _ _
   | exact LeO.none _
   | refine LeO.ite ?_ ?_
   | refine LeO.bind ?_ (fun _ => ?_)
theorem calamusref03_Bytes.mono : ∀ a0 k, LeO (calamusref03_Bytes.f k a0) (calamusref03_Bytes.f (k + 1) a0) := by
 intro a0 k
 have ih0 := calamusref03_Bytes.mono_l k
 unfold calamusref03_Bytes.f
 repeat' first
   | (with_reducible exact ih0 _ _)
   | (with_reducible exact LeO.refl _)
   | (with_reducible exact LeO.none _)
   | (with_reducible refine LeO.ite ?_ ?_)
   | (with_reducible refine LeO.bind ?_ (fun _ => ?_))
   | exact ih0 _ _
   | exact LeO.none _
   | refine LeO.ite ?_ ?_
   | refine LeO.bind ?_ (fun _ => ?_)
set_option maxHeartbeats 8000000 in
set_option maxRecDepth 100000 in
theorem calamusref03_Bytes.calls (k : Nat) (a0 : Int) (r : ByteArray) (w : World) (h : calamusref03_Bytes.f k a0 = some r) :
  Calls Try.prog 102 #[.int .i64 a0] w fun e w' => e = .returned (.string r) ∧ Below w.heap.size w w' := by
 have HB := Aside0.mk (Below.refl w.heap.size w)
 have H : (if a0 < 0 then (calamusref03_Bytes.j0 k a0 true) else (if a0 > 1114111 then (calamusref03_Bytes.j0 k a0 true) else (if a0 ≥ 55296 then (calamusref03_Bytes.j0 k a0 (decide (a0 < 57344))) else (calamusref03_Bytes.j0 k a0 false)))) = some r := h
 clear h
 have HC2 := Aside0.mk H
 clear H
 go_enter Try.func102, Try.ntmps102
 go_upto_region 1 with (fail)
 go_cut [16] (fun v16 wc => ∃ (kq : Nat) (x16_1 : Bool), v16 = .bool x16_1 ∧ Aside0 (calamusref03_Bytes.j0 kq a0 x16_1 = some r) ∧ Aside0 (kq ≤ k) ∧ Aside0 (Below w.heap.size w wc))
 case first =>
  have H := HC2.out
  clear HC2
  by_cases c3 : a0 < 0
  ·rw [if_pos c3] at H
   have c3b0 : decide (a0 < 0) = true := decide_eq_true c3
   clear c3
   (first | rw [c3b0] | (simp only [i64_w, i32_w]; rw [c3b0]) | skip)
   have H' := Aside0.mk H
   clear H
   go_wp2
   go_meet
   case rel => exact ⟨_, (true), es_, H', ⟨by first | omega | exact Nat.le_refl _⟩, ⟨hb_ HB⟩⟩
  ·rw [if_neg c3] at H
   have c3b0 : decide (a0 < 0) = false := decide_eq_false c3
   clear c3
   (first | rw [c3b0] | (simp only [i64_w, i32_w]; rw [c3b0]) | skip)
   by_cases c4 : a0 > 1114111
   ·rw [if_pos c4] at H
    have c4b0 : decide (1114111 < a0) = true := decide_eq_true c4
    clear c4
    have H' := Aside0.mk H
    clear H
    go_wp2
    go_meet
    case rel => exact ⟨_, (true), es_, H', ⟨by first | omega | exact Nat.le_refl _⟩, ⟨hb_ HB⟩⟩
   ·rw [if_neg c4] at H
    have c4b0 : decide (1114111 < a0) = false := decide_eq_false c4
    clear c4
    by_cases c5 : a0 ≥ 55296
    ·rw [if_pos c5] at H
     have c5b0 : decide (55296 ≤ a0) = true := decide_eq_true c5
     clear c5
     have H' := Aside0.mk H
     clear H
     go_wp2
     go_meet
     case rel => exact ⟨_, (decide (a0 < 57344)), es_, H', ⟨by first | omega | exact Nat.le_refl _⟩, ⟨hb_ HB⟩⟩
    ·rw [if_neg c5] at H
     have c5b0 : decide (55296 ≤ a0) = false := decide_eq_false c5
     clear c5
     have H' := Aside0.mk H
     clear H
     go_wp2
     go_meet
     case rel => exact ⟨_, (false), es_, H', ⟨by first | omega | exact Nat.le_refl _⟩, ⟨hb_ HB⟩⟩
 case rest =>
  clear HC2
  obtain ⟨kq, x16_1, rfl, HA, HJ1, HB⟩ := hcut
  cases kq with
  | zero => exact absurd HA.out (by simp [calamusref03_Bytes.j0])
  | succ kj1 =>
   have H := HA.out
   clear HA
   simp only [calamusref03_Bytes.j0] at H
   by_cases c6 : x16_1 = true
   ·subst c6
    have H1 : (some (⟨#[]⟩ : ByteArray)) = some r := by rw [if_pos rfl] at H; exact H
    clear H
    have H := H1
    clear H1
    obtain rfl := Option.some.inj H
    go_wp2
    go_ret
    exact ⟨er_, hb_ HB⟩
   ·replace c6 := Bool.eq_false_iff.mpr c6
    subst c6
    have H1 : (if a0 < 128 then (some (strOfNums (([(a0) % 256] : List Int)))) else (if a0 < 2048 then (some (strOfNums (([(wrap64 (192 + (wrap64 (Int.tdiv a0 64)))) % 256, (wrap64 (128 + (Int.tmod a0 64))) % 256] : List Int)))) else (if a0 < 65536 then (some (strOfNums (([(wrap64 (224 + (wrap64 (Int.tdiv a0 4096)))) % 256, (wrap64 (128 + (Int.tmod (wrap64 (Int.tdiv a0 64)) 64))) % 256, (wrap64 (128 + (Int.tmod a0 64))) % 256] : List Int)))) else (some (strOfNums (([(wrap64 (240 + (wrap64 (Int.tdiv a0 262144)))) % 256, (wrap64 (128 + (Int.tmod (wrap64 (Int.tdiv a0 4096)) 64))) % 256, (wrap64 (128 + (Int.tmod (wrap64 (Int.tdiv a0 64)) 64))) % 256, (wrap64 (128 + (Int.tmod a0 64))) % 256] : List Int))))))) = some r := by rw [if_neg (show ¬ (false = true) by decide)] at H; exact H
    clear H
    have H := H1
    clear H1
    by_cases c7 : a0 < 128
    ·rw [if_pos c7] at H
     have c7b0 : decide (a0 < 128) = true := decide_eq_true c7
     clear c7
     obtain ⟨y111, hy111⟩ : ∃ y_ : List Int, y_ = (([(a0) % 256] : List Int)) := ⟨_, rfl⟩
     replace H : (some (strOfNums y111)) = some r := th_ H hy111
     have Ny111 := Aside0.mk hy111
     clear hy111
     obtain rfl := Option.some.inj H
     go_wp2_with (first | ((with_reducible refine gate_dst (N := 21) rfl ?_); refine Kd.R_lit (Kd.int .u8) _ 5 ?hg (N := 21) ?hd (xs := ([(a0) % 256] : List Int)) (inner := [.int .u8 ((a0) % 256)]) (ok := fun _ => True) (okp := fun _ => True) ?hr ?hp (fun _ hk => hk) trivial (Below.refl _ _) (Nat.le_refl _) (by simp) ?_; (case hd => rfl); (case hg => rfl); (case hr => first | (go_simp; done) | (go_simp; rfl)); (case hp => exact (Reps.one (show Kd.M (Kd.int .u8) _ _ _ ((a0) % 256) [.int .u8 ((a0) % 256)] from rfl) (Reps.none _ _))); intro v112 w8 ho9 hb hg_ hnew_; clear hg_ hnew_; (first | rw [← Ny111.out] at ho9 | (simp only [Int.reduceToNat] at ho9; rw [← Ny111.out] at ho9)); have HO113 := Aside0.mk (Kd.R_lower ho9 (below_size (hb_ HB))); replace HB := bs_ HB hb; clear hb ho9; have hcv10 := own_string (P := Try.prog) Try.underlying84 Try.underlying5 Try.underlying9 (Kd.own_of_R HO113.out)))
     go_ret
     exact ⟨er_, hb_ HB⟩
    ·rw [if_neg c7] at H
     have c7b0 : decide (a0 < 128) = false := decide_eq_false c7
     clear c7
     by_cases c11 : a0 < 2048
     ·rw [if_pos c11] at H
      have c11b0 : decide (a0 < 2048) = true := decide_eq_true c11
      clear c11
      obtain ⟨y114, hy114⟩ : ∃ y_ : List Int, y_ = (([(wrap64 (192 + (wrap64 (Int.tdiv a0 64)))) % 256, (wrap64 (128 + (Int.tmod a0 64))) % 256] : List Int)) := ⟨_, rfl⟩
      replace H : (some (strOfNums y114)) = some r := th_ H hy114
      have Ny114 := Aside0.mk hy114
      clear hy114
      obtain rfl := Option.some.inj H
      go_wp2_with (first | ((with_reducible refine gate_dst (N := 33) rfl ?_); refine Kd.R_lit (Kd.int .u8) _ 5 ?hg (N := 33) ?hd (xs := ([(wrap64 (192 + (wrap64 (Int.tdiv a0 64)))) % 256, (wrap64 (128 + (Int.tmod a0 64))) % 256] : List Int)) (inner := [.int .u8 ((wrap64 (192 + (wrap64 (Int.tdiv a0 64)))) % 256), .int .u8 ((wrap64 (128 + (Int.tmod a0 64))) % 256)]) (ok := fun _ => True) (okp := fun _ => True) ?hr ?hp (fun _ hk => hk) trivial (Below.refl _ _) (Nat.le_refl _) (by simp) ?_; (case hd => rfl); (case hg => rfl); (case hr => first | (go_simp; done) | (go_simp; rfl)); (case hp => exact (Reps.one (show Kd.M (Kd.int .u8) _ _ _ ((wrap64 (192 + (wrap64 (Int.tdiv a0 64)))) % 256) [.int .u8 ((wrap64 (192 + (wrap64 (Int.tdiv a0 64)))) % 256)] from rfl) (Reps.one (show Kd.M (Kd.int .u8) _ _ _ ((wrap64 (128 + (Int.tmod a0 64))) % 256) [.int .u8 ((wrap64 (128 + (Int.tmod a0 64))) % 256)] from rfl) (Reps.none _ _)))); intro v115 w12 ho13 hb hg_ hnew_; clear hg_ hnew_; (first | rw [← Ny114.out] at ho13 | (simp only [Int.reduceToNat] at ho13; rw [← Ny114.out] at ho13)); have HO116 := Aside0.mk (Kd.R_lower ho13 (below_size (hb_ HB))); replace HB := bs_ HB hb; clear hb ho13; have hcv14 := own_string (P := Try.prog) Try.underlying84 Try.underlying5 Try.underlying9 (Kd.own_of_R HO116.out)))
      go_ret
      exact ⟨er_, hb_ HB⟩
     ·rw [if_neg c11] at H
      have c11b0 : decide (a0 < 2048) = false := decide_eq_false c11
      clear c11
      by_cases c15 : a0 < 65536
      ·rw [if_pos c15] at H
       have c15b0 : decide (a0 < 65536) = true := decide_eq_true c15
       clear c15
       obtain ⟨y117, hy117⟩ : ∃ y_ : List Int, y_ = (([(wrap64 (224 + (wrap64 (Int.tdiv a0 4096)))) % 256, (wrap64 (128 + (Int.tmod (wrap64 (Int.tdiv a0 64)) 64))) % 256, (wrap64 (128 + (Int.tmod a0 64))) % 256] : List Int)) := ⟨_, rfl⟩
       replace H : (some (strOfNums y117)) = some r := th_ H hy117
       have Ny117 := Aside0.mk hy117
       clear hy117
       obtain rfl := Option.some.inj H
       go_wp2_with (first | ((with_reducible refine gate_dst (N := 50) rfl ?_); refine Kd.R_lit (Kd.int .u8) _ 5 ?hg (N := 50) ?hd (xs := ([(wrap64 (224 + (wrap64 (Int.tdiv a0 4096)))) % 256, (wrap64 (128 + (Int.tmod (wrap64 (Int.tdiv a0 64)) 64))) % 256, (wrap64 (128 + (Int.tmod a0 64))) % 256] : List Int)) (inner := [.int .u8 ((wrap64 (224 + (wrap64 (Int.tdiv a0 4096)))) % 256), .int .u8 ((wrap64 (128 + (Int.tmod (wrap64 (Int.tdiv a0 64)) 64))) % 256), .int .u8 ((wrap64 (128 + (Int.tmod a0 64))) % 256)]) (ok := fun _ => True) (okp := fun _ => True) ?hr ?hp (fun _ hk => hk) trivial (Below.refl _ _) (Nat.le_refl _) (by simp) ?_; (case hd => rfl); (case hg => rfl); (case hr => first | (go_simp; done) | (go_simp; rfl)); (case hp => exact (Reps.one (show Kd.M (Kd.int .u8) _ _ _ ((wrap64 (224 + (wrap64 (Int.tdiv a0 4096)))) % 256) [.int .u8 ((wrap64 (224 + (wrap64 (Int.tdiv a0 4096)))) % 256)] from rfl) (Reps.one (show Kd.M (Kd.int .u8) _ _ _ ((wrap64 (128 + (Int.tmod (wrap64 (Int.tdiv a0 64)) 64))) % 256) [.int .u8 ((wrap64 (128 + (Int.tmod (wrap64 (Int.tdiv a0 64)) 64))) % 256)] from rfl) (Reps.one (show Kd.M (Kd.int .u8) _ _ _ ((wrap64 (128 + (Int.tmod a0 64))) % 256) [.int .u8 ((wrap64 (128 + (Int.tmod a0 64))) % 256)] from rfl) (Reps.none _ _))))); intro v118 w16 ho17 hb hg_ hnew_; clear hg_ hnew_; (first | rw [← Ny117.out] at ho17 | (simp only [Int.reduceToNat] at ho17; rw [← Ny117.out] at ho17)); have HO119 := Aside0.mk (Kd.R_lower ho17 (below_size (hb_ HB))); replace HB := bs_ HB hb; clear hb ho17; have hcv18 := own_string (P := Try.prog) Try.underlying84 Try.underlying5 Try.underlying9 (Kd.own_of_R HO119.out)))
       go_ret
       exact ⟨er_, hb_ HB⟩
      ·rw [if_neg c15] at H
       have c15b0 : decide (a0 < 65536) = false := decide_eq_false c15
       clear c15
       obtain ⟨y120, hy120⟩ : ∃ y_ : List Int, y_ = (([(wrap64 (240 + (wrap64 (Int.tdiv a0 262144)))) % 256, (wrap64 (128 + (Int.tmod (wrap64 (Int.tdiv a0 4096)) 64))) % 256, (wrap64 (128 + (Int.tmod (wrap64 (Int.tdiv a0 64)) 64))) % 256, (wrap64 (128 + (Int.tmod a0 64))) % 256] : List Int)) := ⟨_, rfl⟩
       replace H : (some (strOfNums y120)) = some r := th_ H hy120
       have Ny120 := Aside0.mk hy120
       clear hy120
       obtain rfl := Option.some.inj H
       go_wp2_with (first | ((with_reducible refine gate_dst (N := 70) rfl ?_); refine Kd.R_lit (Kd.int .u8) _ 5 ?hg (N := 70) ?hd (xs := ([(wrap64 (240 + (wrap64 (Int.tdiv a0 262144)))) % 256, (wrap64 (128 + (Int.tmod (wrap64 (Int.tdiv a0 4096)) 64))) % 256, (wrap64 (128 + (Int.tmod (wrap64 (Int.tdiv a0 64)) 64))) % 256, (wrap64 (128 + (Int.tmod a0 64))) % 256] : List Int)) (inner := [.int .u8 ((wrap64 (240 + (wrap64 (Int.tdiv a0 262144)))) % 256), .int .u8 ((wrap64 (128 + (Int.tmod (wrap64 (Int.tdiv a0 4096)) 64))) % 256), .int .u8 ((wrap64 (128 + (Int.tmod (wrap64 (Int.tdiv a0 64)) 64))) % 256), .int .u8 ((wrap64 (128 + (Int.tmod a0 64))) % 256)]) (ok := fun _ => True) (okp := fun _ => True) ?hr ?hp (fun _ hk => hk) trivial (Below.refl _ _) (Nat.le_refl _) (by simp) ?_; (case hd => rfl); (case hg => rfl); (case hr => first | (go_simp; done) | (go_simp; rfl)); (case hp => exact (Reps.one (show Kd.M (Kd.int .u8) _ _ _ ((wrap64 (240 + (wrap64 (Int.tdiv a0 262144)))) % 256) [.int .u8 ((wrap64 (240 + (wrap64 (Int.tdiv a0 262144)))) % 256)] from rfl) (Reps.one (show Kd.M (Kd.int .u8) _ _ _ ((wrap64 (128 + (Int.tmod (wrap64 (Int.tdiv a0 4096)) 64))) % 256) [.int .u8 ((wrap64 (128 + (Int.tmod (wrap64 (Int.tdiv a0 4096)) 64))) % 256)] from rfl) (Reps.one (show Kd.M (Kd.int .u8) _ _ _ ((wrap64 (128 + (Int.tmod (wrap64 (Int.tdiv a0 64)) 64))) % 256) [.int .u8 ((wrap64 (128 + (Int.tmod (wrap64 (Int.tdiv a0 64)) 64))) % 256)] from rfl) (Reps.one (show Kd.M (Kd.int .u8) _ _ _ ((wrap64 (128 + (Int.tmod a0 64))) % 256) [.int .u8 ((wrap64 (128 + (Int.tmod a0 64))) % 256)] from rfl) (Reps.none _ _)))))); intro v121 w19 ho20 hb hg_ hnew_; clear hg_ hnew_; (first | rw [← Ny120.out] at ho20 | (simp only [Int.reduceToNat] at ho20; rw [← Ny120.out] at ho20)); have HO122 := Aside0.mk (Kd.R_lower ho20 (below_size (hb_ HB))); replace HB := bs_ HB hb; clear hb ho20; have hcv21 := own_string (P := Try.prog) Try.underlying84 Try.underlying5 Try.underlying9 (Kd.own_of_R HO122.out)))
       go_ret
       exact ⟨er_, hb_ HB⟩

/-! ### calamusref03_number: function 103 -/
mutual
def calamusref03_number.l0 : Nat → ByteArray → Int → Int → Option (Int)
 | 0, _, _, _ => none
 | k + 1, x0, x3, x4 => if x4 < (x0.size : Int) then (if 0 ≤ x4 then (if x4 = 0 then ((some (([0, 0, 192, 224, 240] : List Int) : List Int)).bind fun y123 => (if 0 ≤ (x0.size : Int) then (if (x0.size : Int) < (y123.length : Int) then (if (wrap64 ((wrap64 (bt x0 x4)) - (rd y123 (x0.size : Int)))) < 0 then (some (-1)) else (calamusref03_number.l0 k x0 (wrap64 ((wrap64 (64 * x3)) + (wrap64 ((wrap64 (bt x0 x4)) - (rd y123 (x0.size : Int)))))) (wrap64 (x4 + 1)))) else (none)) else (none))) else (if (wrap64 ((wrap64 (bt x0 x4)) - 128)) < 0 then (calamusref03_number.j1 k x0 x3 x4 (wrap64 ((wrap64 (bt x0 x4)) - 128)) true) else (calamusref03_number.j1 k x0 x3 x4 (wrap64 ((wrap64 (bt x0 x4)) - 128)) (decide ((wrap64 ((wrap64 (bt x0 x4)) - 128)) > 63))))) else (none)) else (some x3)
def calamusref03_number.j1 : Nat → ByteArray → Int → Int → Int → Bool → Option (Int)
 | 0, _, _, _, _, _ => none
 | k + 1, x0, x3, x4, x5, x38 => if x38 = true then (some (-1)) else (if x5 < 0 then (some (-1)) else (calamusref03_number.l0 k x0 (wrap64 ((wrap64 (64 * x3)) + x5)) (wrap64 (x4 + 1))))
end
def calamusref03_number.f (k : Nat) (a0 : ByteArray) : Option (Int) := if (a0.size : Int) = 1 then (if 0 < (a0.size : Int) then (some (wrap64 (bt a0 0))) else (none)) else (calamusref03_number.l0 k a0 0 0)
theorem calamusref03_number.mono_l : ∀ k, (∀ y0 y1 y2, LeO (calamusref03_number.l0 k y0 y1 y2) (calamusref03_number.l0 (k + 1) y0 y1 y2)) ∧ (∀ y0 y1 y2 y3 y4, LeO (calamusref03_number.j1 k y0 y1 y2 y3 y4) (calamusref03_number.j1 (k + 1) y0 y1 y2 y3 y4))
 | 0 => ⟨fun _ _ _ r h => by simp [calamusref03_number.l0] at h, fun _ _ _ _ _ r h => by simp [calamusref03_number.j1] at h⟩
 | k + 1 => by
  obtain ⟨ih0, ih1⟩ := calamusref03_number.mono_l k
  refine ⟨?_, ?_⟩
  ·intro y0 y1 y2
   unfold calamusref03_number.l0
   repeat' first
   | (with_reducible exact ih0 _ _ _)
   | (with_reducible exact ih1 _ _ _ _ _)
   | (with_reducible exact LeO.refl _)
   | (with_reducible exact LeO.none _)
   | (with_reducible refine LeO.ite ?_ ?_)
   | (with_reducible refine LeO.bind ?_ (fun _ => ?_))
   | exact ih0 _ _ _
   | exact ih1 _ _ _ _ _
   | exact LeO.none _
   | refine LeO.ite ?_ ?_
   | refine LeO.bind ?_ (fun _ => ?_)
  ·intro y0 y1 y2 y3 y4
   unfold calamusref03_number.j1
   repeat' first
   | (with_reducible exact ih0 _ _ _)
   | (with_reducible exact ih1 _ _ _ _ _)
   | (with_reducible exact LeO.refl _)
   | (with_reducible exact LeO.none _)
   | (with_reducible refine LeO.ite ?_ ?_)
   | (with_reducible refine LeO.bind ?_ (fun _ => ?_))
   | exact ih0 _ _ _
   | exact ih1 _ _ _ _ _
   | exact LeO.none _
   | refine LeO.ite ?_ ?_
   | refine LeO.bind ?_ (fun _ => ?_)
theorem calamusref03_number.mono : ∀ a0 k, LeO (calamusref03_number.f k a0) (calamusref03_number.f (k + 1) a0) := by
 intro a0 k
 obtain ⟨ih0, ih1⟩ := calamusref03_number.mono_l k
 unfold calamusref03_number.f
 repeat' first
   | (with_reducible exact ih0 _ _ _)
   | (with_reducible exact ih1 _ _ _ _ _)
   | (with_reducible exact LeO.refl _)
   | (with_reducible exact LeO.none _)
   | (with_reducible refine LeO.ite ?_ ?_)
   | (with_reducible refine LeO.bind ?_ (fun _ => ?_))
   | exact ih0 _ _ _
   | exact ih1 _ _ _ _ _
   | exact LeO.none _
   | refine LeO.ite ?_ ?_
   | refine LeO.bind ?_ (fun _ => ?_)
set_option maxHeartbeats 8000000 in
set_option maxRecDepth 100000 in
theorem calamusref03_number.calls (k : Nat) (a0 : ByteArray) (r : Int) (w : World) (h : calamusref03_number.f k a0 = some r) :
  Calls Try.prog 103 #[.string a0] w fun e w' => e = .returned (.int .i64 r) ∧ Below w.heap.size w w' := by
 have HB := Aside0.mk (Below.refl w.heap.size w)
 have H : (if (a0.size : Int) = 1 then (if 0 < (a0.size : Int) then (some (wrap64 (bt a0 0))) else (none)) else (calamusref03_number.l0 k a0 0 0)) = some r := h
 clear h
 by_cases c2 : (a0.size : Int) = 1
 ·rw [if_pos c2] at H
  have c2b0 : ((a0.size : Int) == 1) = true := beq_iff_eq.mpr c2
  have c2b1 : ((a0.size : Int) != 1) = false := bne_eq_false_iff_eq.mpr c2
  clear c2
  by_cases c3 : 0 < (a0.size : Int)
  ·rw [if_pos c3] at H
   have c3b0 : decide (0 < (a0.size : Int)) = true := decide_eq_true c3
   have c3b1 : decide (0 < a0.size) = true := decide_eq_true (by omega)
   clear c3
   obtain rfl := Option.some.inj H
   have p4 : 0 ≤ (0 : Int) := (by omega)
   have q4 : 0 < a0.size := (by have : (0 : Int) < (a0.size : Int) := of_decide_eq_true as_; omega)
   have hx4 : ∀ h : 0 < a0.size, ((a0[0]'h).toNat : Int) = bt a0 0 := bt_at a0 0
   clear p4
   have qi4 : (0 < (a0.size : Int)) = True := eq_true (of_decide_eq_true as_)
   replace q4 := eq_true q4
   go_enter Try.func103, Try.ntmps103
   go_wp2
   go_ret
   exact ⟨er_, hb_ HB⟩
  ·rw [if_neg c3] at H
   exact absurd H (by simp)
 ·rw [if_neg c2] at H
  have c2b0 : ((a0.size : Int) == 1) = false := beq_eq_false_iff_ne.mpr c2
  have c2b1 : ((a0.size : Int) != 1) = true := bne_iff_ne.mpr c2
  have H' := Aside0.mk H
  clear H
  go_enter Try.func103, Try.ntmps103
  go_wp2
  go_loopg [3, 4] k (fun kq v3 v4 w' => ∃ (x3_1 : Int) (x4_1 : Int), v3 = .int .i64 x3_1 ∧ v4 = .int .i64 x4_1 ∧ Aside0 (calamusref03_number.l0 kq a0 x3_1 x4_1 = some r) ∧ Aside0 (kq ≤ k) ∧ Aside0 (Below w.heap.size w w'))
  case atStart => exact ⟨(0), (0), es_, es_, H', ⟨Nat.le_refl _⟩, ⟨hb_ HB⟩⟩
  case round =>
   clear H'
   try clear c2
   try clear c2b0
   try clear c2b1
   obtain ⟨x3_1, x4_1, rfl, rfl, HA, HK1, HB⟩ := hrel
   cases gk with
   | zero => exact absurd HA.out (by simp [calamusref03_number.l0])
   | succ k1 =>
    have H := HA.out
    clear HA
    simp only [calamusref03_number.l0] at H
    by_cases c5 : x4_1 < (a0.size : Int)
    ·rw [if_pos c5] at H
     have c5b0 : decide (x4_1 < (a0.size : Int)) = true := decide_eq_true c5
     clear c5
     by_cases c6 : 0 ≤ x4_1
     ·rw [if_pos c6] at H
      have c6b0 : decide (0 ≤ x4_1) = true := decide_eq_true c6
      clear c6
      by_cases c8 : x4_1 = 0
      ·rw [if_pos c8] at H
       have c8b0 : (x4_1 == 0) = true := beq_iff_eq.mpr c8
       have c8b1 : (x4_1 != 0) = false := bne_eq_false_iff_eq.mpr c8
       clear c8
       obtain ⟨y123, hy123⟩ : ∃ y_ : List Int, y_ = (([0, 0, 192, 224, 240] : List Int)) := ⟨_, rfl⟩
       replace H : (if 0 ≤ (a0.size : Int) then (if (a0.size : Int) < (y123.length : Int) then (if (wrap64 ((wrap64 (bt a0 x4_1)) - (rd y123 (a0.size : Int)))) < 0 then (some (-1)) else (calamusref03_number.l0 k1 a0 (wrap64 ((wrap64 (64 * x3_1)) + (wrap64 ((wrap64 (bt a0 x4_1)) - (rd y123 (a0.size : Int)))))) (wrap64 (x4_1 + 1)))) else (none)) else (none)) = some r := th_ H hy123
       have Ny123 := Aside0.mk hy123
       clear hy123
       by_cases c9 : 0 ≤ (a0.size : Int)
       ·rw [if_pos c9] at H
        have c9b0 : decide (0 ≤ (a0.size : Int)) = true := decide_eq_true c9
        have c9b1 : decide (0 ≤ a0.size) = true := decide_eq_true (by omega)
        clear c9
        by_cases c10 : (a0.size : Int) < (y123.length : Int)
        ·rw [if_pos c10] at H
         have c10b0 : decide ((a0.size : Int) < (y123.length : Int)) = true := decide_eq_true c10
         have c10b1 : decide (a0.size < y123.length) = true := decide_eq_true (Int.ofNat_lt.mp c10)
         clear c10
         by_cases c11 : (wrap64 ((wrap64 (bt a0 x4_1)) - (rd y123 (a0.size : Int)))) < 0
         ·rw [if_pos c11] at H
          have c11b0 : decide ((wrap64 ((wrap64 (bt a0 x4_1)) - (rd y123 (a0.size : Int)))) < 0) = true := decide_eq_true c11
          clear c11
          obtain rfl := Option.some.inj H
          have p7 : 0 ≤ (x4_1 : Int) := of_decide_eq_true as_
          have q7 : x4_1 < (a0.size : Int) := of_decide_eq_true as_
          have hx7 := bt_at a0 x4_1
          replace p7 := eq_true p7
          replace q7 := eq_true q7
          go_wp2_with (first | ((with_reducible refine gate_dst (N := 25) rfl ?_); refine Kd.R_lit (Kd.int .i64) _ 3 ?hg (N := 25) ?hd (xs := ([0, 0, 192, 224, 240] : List Int)) (inner := [.int .i64 0, .int .i64 0, .int .i64 192, .int .i64 224, .int .i64 240]) (ok := fun _ => True) (okp := fun _ => True) ?hr ?hp (fun _ hk => hk) trivial (Below.refl _ _) (Nat.le_refl _) (by simp) ?_; (case hd => rfl); (case hg => rfl); (case hr => first | (go_simp; done) | (go_simp; rfl)); (case hp => exact (Reps.one (show Kd.M (Kd.int .i64) _ _ _ 0 [.int .i64 0] from rfl) (Reps.one (show Kd.M (Kd.int .i64) _ _ _ 0 [.int .i64 0] from rfl) (Reps.one (show Kd.M (Kd.int .i64) _ _ _ 192 [.int .i64 192] from rfl) (Reps.one (show Kd.M (Kd.int .i64) _ _ _ 224 [.int .i64 224] from rfl) (Reps.one (show Kd.M (Kd.int .i64) _ _ _ 240 [.int .i64 240] from rfl) (Reps.none _ _))))))); intro v124 w12 ho13 hb hg_ hnew_; clear hg_ hnew_; (first | rw [← Ny123.out] at ho13 | (simp only [Int.reduceToNat] at ho13; rw [← Ny123.out] at ho13)); have HO125 := Aside0.mk (Kd.R_lower ho13 (below_size (hb_ HB))); replace HB := bs_ HB hb; clear hb ho13; obtain ⟨Ao14, co14, eo14⟩ := Kd.R_slice HO125.out; subst eo14; have p126 : 0 ≤ ((a0.size : Int) : Int) := of_decide_eq_true as_; have q126 : (a0.size : Int) < (y123.length : Int) := of_decide_eq_true as_; obtain ⟨ad126, e126, hx126_0⟩ := Kd.at_int (Kd.R_reads' HO125.out).2.2 (a0.size : Int) p126 q126; cases e126; (try simp only [Go.IntWalk.toNatUp] at hx126_0); replace p126 := eq_true p126; replace q126 := eq_true q126))
          go_ret
          exact ⟨er_, hb_ HB⟩
         ·rw [if_neg c11] at H
          have c11b0 : decide ((wrap64 ((wrap64 (bt a0 x4_1)) - (rd y123 (a0.size : Int)))) < 0) = false := decide_eq_false c11
          clear c11
          have H' := Aside0.mk H
          clear H
          have p7 : 0 ≤ (x4_1 : Int) := of_decide_eq_true as_
          have q7 : x4_1 < (a0.size : Int) := of_decide_eq_true as_
          have hx7 := bt_at a0 x4_1
          replace p7 := eq_true p7
          replace q7 := eq_true q7
          go_wp2_with (first | ((with_reducible refine gate_dst (N := 25) rfl ?_); refine Kd.R_lit (Kd.int .i64) _ 3 ?hg (N := 25) ?hd (xs := ([0, 0, 192, 224, 240] : List Int)) (inner := [.int .i64 0, .int .i64 0, .int .i64 192, .int .i64 224, .int .i64 240]) (ok := fun _ => True) (okp := fun _ => True) ?hr ?hp (fun _ hk => hk) trivial (Below.refl _ _) (Nat.le_refl _) (by simp) ?_; (case hd => rfl); (case hg => rfl); (case hr => first | (go_simp; done) | (go_simp; rfl)); (case hp => exact (Reps.one (show Kd.M (Kd.int .i64) _ _ _ 0 [.int .i64 0] from rfl) (Reps.one (show Kd.M (Kd.int .i64) _ _ _ 0 [.int .i64 0] from rfl) (Reps.one (show Kd.M (Kd.int .i64) _ _ _ 192 [.int .i64 192] from rfl) (Reps.one (show Kd.M (Kd.int .i64) _ _ _ 224 [.int .i64 224] from rfl) (Reps.one (show Kd.M (Kd.int .i64) _ _ _ 240 [.int .i64 240] from rfl) (Reps.none _ _))))))); intro v124 w15 ho16 hb hg_ hnew_; clear hg_ hnew_; (first | rw [← Ny123.out] at ho16 | (simp only [Int.reduceToNat] at ho16; rw [← Ny123.out] at ho16)); have HO125 := Aside0.mk (Kd.R_lower ho16 (below_size (hb_ HB))); replace HB := bs_ HB hb; clear hb ho16; obtain ⟨Ao17, co17, eo17⟩ := Kd.R_slice HO125.out; subst eo17; have p126 : 0 ≤ ((a0.size : Int) : Int) := of_decide_eq_true as_; have q126 : (a0.size : Int) < (y123.length : Int) := of_decide_eq_true as_; obtain ⟨ad126, e126, hx126_0⟩ := Kd.at_int (Kd.R_reads' HO125.out).2.2 (a0.size : Int) p126 q126; cases e126; (try simp only [Go.IntWalk.toNatUp] at hx126_0); replace p126 := eq_true p126; replace q126 := eq_true q126))
          go_roundg k1
          case measure => have := HK1.out; omega
          case rel => exact ⟨(wrap64 ((wrap64 (64 * x3_1)) + (wrap64 ((wrap64 (bt a0 x4_1)) - (rd y123 (a0.size : Int)))))), (wrap64 (x4_1 + 1)), es_, es_, H', ⟨by have := HK1.out; omega⟩, ⟨hb_ HB⟩⟩
        ·rw [if_neg c10] at H
         exact absurd H (by simp)
       ·rw [if_neg c9] at H
        exact absurd H (by simp)
      ·rw [if_neg c8] at H
       have c8b0 : (x4_1 == 0) = false := beq_eq_false_iff_ne.mpr c8
       have c8b1 : (x4_1 != 0) = true := bne_iff_ne.mpr c8
       have HC18 := Aside0.mk H
       clear H
       have p7 : 0 ≤ (x4_1 : Int) := of_decide_eq_true as_
       have q7 : x4_1 < (a0.size : Int) := of_decide_eq_true as_
       have hx7 := bt_at a0 x4_1
       replace p7 := eq_true p7
       replace q7 := eq_true q7
       go_upto_region 11 with (fail)
       go_cut [38] (fun v38 wc => ∃ (kq : Nat) (x38_17 : Bool), v38 = .bool x38_17 ∧ Aside0 (calamusref03_number.j1 kq a0 x3_1 x4_1 (wrap64 ((wrap64 (bt a0 x4_1)) - 128)) x38_17 = some r) ∧ Aside0 (kq ≤ k1) ∧ Aside0 (Below w.heap.size w wc))
       case first =>
        have H := HC18.out
        clear HC18
        by_cases c19 : (wrap64 ((wrap64 (bt a0 x4_1)) - 128)) < 0
        ·rw [if_pos c19] at H
         have c19b0 : decide ((wrap64 ((wrap64 (bt a0 x4_1)) - 128)) < 0) = true := decide_eq_true c19
         clear c19
         (first | rw [c19b0] | (simp only [i64_w, i32_w]; rw [c19b0]) | skip)
         have H' := Aside0.mk H
         clear H
         go_wp2
         go_meet
         case rel => exact ⟨_, (true), es_, H', ⟨by have := HK1.out; first | omega | exact Nat.le_refl _⟩, ⟨hb_ HB⟩⟩
        ·rw [if_neg c19] at H
         have c19b0 : decide ((wrap64 ((wrap64 (bt a0 x4_1)) - 128)) < 0) = false := decide_eq_false c19
         clear c19
         (first | rw [c19b0] | (simp only [i64_w, i32_w]; rw [c19b0]) | skip)
         have H' := Aside0.mk H
         clear H
         go_wp2
         go_meet
         case rel => exact ⟨_, (decide ((wrap64 ((wrap64 (bt a0 x4_1)) - 128)) > 63)), es_, H', ⟨by have := HK1.out; first | omega | exact Nat.le_refl _⟩, ⟨hb_ HB⟩⟩
       case rest =>
        clear HC18
        try clear c2
        try clear c2b0
        try clear c2b1
        try clear c5
        try clear c5b0
        try clear c6
        try clear c6b0
        try clear p7
        try clear q7
        try clear hx7
        try clear c8
        try clear c8b0
        try clear c8b1
        try clear p7
        try clear q7
        obtain ⟨kq, x38_17, rfl, HA, HJ17, HB⟩ := hcut
        cases kq with
        | zero => exact absurd HA.out (by simp [calamusref03_number.j1])
        | succ kj17 =>
         have H := HA.out
         clear HA
         simp only [calamusref03_number.j1] at H
         by_cases c20 : x38_17 = true
         ·subst c20
          have H1 : (some (-1)) = some r := by rw [if_pos rfl] at H; exact H
          clear H
          have H := H1
          clear H1
          obtain rfl := Option.some.inj H
          go_wp2
          go_ret
          exact ⟨er_, hb_ HB⟩
         ·replace c20 := Bool.eq_false_iff.mpr c20
          subst c20
          have H1 : (if (wrap64 ((wrap64 (bt a0 x4_1)) - 128)) < 0 then (some (-1)) else (calamusref03_number.l0 kj17 a0 (wrap64 ((wrap64 (64 * x3_1)) + (wrap64 ((wrap64 (bt a0 x4_1)) - 128)))) (wrap64 (x4_1 + 1)))) = some r := by rw [if_neg (show ¬ (false = true) by decide)] at H; exact H
          clear H
          have H := H1
          clear H1
          by_cases c21 : (wrap64 ((wrap64 (bt a0 x4_1)) - 128)) < 0
          ·rw [if_pos c21] at H
           have c21b0 : decide ((wrap64 ((wrap64 (bt a0 x4_1)) - 128)) < 0) = true := decide_eq_true c21
           clear c21
           obtain rfl := Option.some.inj H
           go_wp2
           go_ret
           exact ⟨er_, hb_ HB⟩
          ·rw [if_neg c21] at H
           have c21b0 : decide ((wrap64 ((wrap64 (bt a0 x4_1)) - 128)) < 0) = false := decide_eq_false c21
           clear c21
           have H' := Aside0.mk H
           clear H
           go_wp2
           go_roundg kj17
           case measure => have := HK1.out; have := HJ17.out; omega
           case rel => exact ⟨(wrap64 ((wrap64 (64 * x3_1)) + (wrap64 ((wrap64 (bt a0 x4_1)) - 128)))), (wrap64 (x4_1 + 1)), es_, es_, H', ⟨by have := HK1.out; have := HJ17.out; omega⟩, ⟨hb_ HB⟩⟩
     ·rw [if_neg c6] at H
      exact absurd H (by simp)
    ·rw [if_neg c5] at H
     have c5b0 : decide (x4_1 < (a0.size : Int)) = false := decide_eq_false c5
     clear c5
     obtain rfl := Option.some.inj H
     go_wp2
     go_ret
     exact ⟨er_, hb_ HB⟩

/-! ### calamusref03_Is: function 72 -/
def calamusref03_Is.f (k : Nat) (a0 : ByteArray) : Option (Bool) := if (a0.size : Int) ≥ 1 then (if (a0.size : Int) ≤ 4 then ((calamusref03_number.f k a0).bind fun t127 => ((calamusref03_Bytes.f k t127).bind fun t128 => (some (t128.toList == a0.toList)))) else (some false)) else (some false)
theorem calamusref03_Is.mono : ∀ a0 k, LeO (calamusref03_Is.f k a0) (calamusref03_Is.f (k + 1) a0) := by
 intro a0 k
 unfold calamusref03_Is.f
 repeat' first
   | (with_reducible exact calamusref03_Bytes.mono _ _)
   | (with_reducible exact calamusref03_number.mono _ _)
   | (with_reducible exact LeO.refl _)
   | (with_reducible exact LeO.none _)
   | (with_reducible refine LeO.ite ?_ ?_)
   | (with_reducible refine LeO.bind ?_ (fun _ => ?_))
   | exact calamusref03_Bytes.mono _ _
   | exact calamusref03_number.mono _ _
   | exact LeO.none _
   | refine LeO.ite ?_ ?_
   | refine LeO.bind ?_ (fun _ => ?_)
set_option maxHeartbeats 8000000 in
set_option maxRecDepth 100000 in
theorem calamusref03_Is.calls (k : Nat) (a0 : ByteArray) (r : Bool) (w : World) (h : calamusref03_Is.f k a0 = some r) :
  Calls Try.prog 72 #[.string a0] w fun e w' => e = .returned (.bool r) ∧ Below w.heap.size w w' := by
 have HB := Aside0.mk (Below.refl w.heap.size w)
 have H : (if (a0.size : Int) ≥ 1 then (if (a0.size : Int) ≤ 4 then ((calamusref03_number.f k a0).bind fun t127 => ((calamusref03_Bytes.f k t127).bind fun t128 => (some (t128.toList == a0.toList)))) else (some false)) else (some false)) = some r := h
 clear h
 by_cases c2 : (a0.size : Int) ≥ 1
 ·rw [if_pos c2] at H
  have c2b0 : decide (1 ≤ (a0.size : Int)) = true := decide_eq_true c2
  have c2b1 : decide (1 ≤ a0.size) = true := decide_eq_true (by omega)
  clear c2
  by_cases c3 : (a0.size : Int) ≤ 4
  ·rw [if_pos c3] at H
   have c3b0 : decide ((a0.size : Int) ≤ 4) = true := decide_eq_true c3
   have c3b1 : decide (a0.size ≤ 4) = true := decide_eq_true (by omega)
   clear c3
   replace H := Option.bind_eq_some_iff.mp H
   obtain ⟨t127, A40, H⟩ := H
   replace H : ((calamusref03_Bytes.f k t127).bind fun t128 => (some (t128.toList == a0.toList))) = some r := H
   have A4 := Aside0.mk A40
   clear A40
   replace H := Option.bind_eq_some_iff.mp H
   obtain ⟨t128, A50, H⟩ := H
   replace H : (some (t128.toList == a0.toList)) = some r := H
   have A5 := Aside0.mk A50
   clear A50
   obtain rfl := Option.some.inj H
   go_enter Try.func72, Try.ntmps72
   go_wp2_with (first | (go_at_call 103; (with_reducible refine (calamusref03_number.calls k a0 t127 _ A4.out).mono ?_); rintro e w6 ⟨rfl, hb⟩; replace HB := bs_ HB hb; (try clear hb); (try clear hb2); (try clear hk); (try clear hi)) | (go_at_call 102; (with_reducible refine (calamusref03_Bytes.calls k t127 t128 _ A5.out).mono ?_); rintro e w7 ⟨rfl, hb⟩; replace HB := bs_ HB hb; (try clear hb); (try clear hb2); (try clear hk); (try clear hi)))
   go_ret
   exact ⟨er_, hb_ HB⟩
  ·rw [if_neg c3] at H
   have c3b0 : decide ((a0.size : Int) ≤ 4) = false := decide_eq_false c3
   have c3b1 : decide (a0.size ≤ 4) = false := decide_eq_false (by omega)
   clear c3
   obtain rfl := Option.some.inj H
   go_enter Try.func72, Try.ntmps72
   go_wp2
   go_ret
   exact ⟨er_, hb_ HB⟩
 ·rw [if_neg c2] at H
  have c2b0 : decide (1 ≤ (a0.size : Int)) = false := decide_eq_false c2
  have c2b1 : decide (1 ≤ a0.size) = false := decide_eq_false (by omega)
  clear c2
  obtain rfl := Option.some.inj H
  go_enter Try.func72, Try.ntmps72
  go_wp2
  go_ret
  exact ⟨er_, hb_ HB⟩

/-! ### calamusref13_Sign: function 40 -/
def calamusref13_Sign.f (k : Nat) (a0 : ByteArray) : Option (Bool) := (calamusref03_Is.f k a0).bind fun t129 => (if t129 = true then (if (a0.size : Int) > 1 then (some true) else (if 0 < (a0.size : Int) then (if (bt a0 0) ≥ 32 then (some (decide ((bt a0 0) ≤ 126))) else (some false)) else (none))) else (some false))
theorem calamusref13_Sign.mono : ∀ a0 k, LeO (calamusref13_Sign.f k a0) (calamusref13_Sign.f (k + 1) a0) := by
 intro a0 k
 unfold calamusref13_Sign.f
 repeat' first
   | (with_reducible exact calamusref03_Is.mono _ _)
   | (with_reducible exact LeO.refl _)
   | (with_reducible exact LeO.none _)
   | (with_reducible refine LeO.ite ?_ ?_)
   | (with_reducible refine LeO.bind ?_ (fun _ => ?_))
   | exact calamusref03_Is.mono _ _
   | exact LeO.none _
   | refine LeO.ite ?_ ?_
   | refine LeO.bind ?_ (fun _ => ?_)
set_option maxHeartbeats 8000000 in
set_option maxRecDepth 100000 in
theorem calamusref13_Sign.calls (k : Nat) (a0 : ByteArray) (r : Bool) (w : World) (h : calamusref13_Sign.f k a0 = some r) :
  Calls Try.prog 40 #[.string a0] w fun e w' => e = .returned (.bool r) ∧ Below w.heap.size w w' := by
 have HB := Aside0.mk (Below.refl w.heap.size w)
 have H : ((calamusref03_Is.f k a0).bind fun t129 => (if t129 = true then (if (a0.size : Int) > 1 then (some true) else (if 0 < (a0.size : Int) then (if (bt a0 0) ≥ 32 then (some (decide ((bt a0 0) ≤ 126))) else (some false)) else (none))) else (some false))) = some r := h
 clear h
 replace H := Option.bind_eq_some_iff.mp H
 obtain ⟨t129, A20, H⟩ := H
 replace H : (if t129 = true then (if (a0.size : Int) > 1 then (some true) else (if 0 < (a0.size : Int) then (if (bt a0 0) ≥ 32 then (some (decide ((bt a0 0) ≤ 126))) else (some false)) else (none))) else (some false)) = some r := H
 have A2 := Aside0.mk A20
 clear A20
 by_cases c3 : t129 = true
 ·subst c3
  have H1 : (if (a0.size : Int) > 1 then (some true) else (if 0 < (a0.size : Int) then (if (bt a0 0) ≥ 32 then (some (decide ((bt a0 0) ≤ 126))) else (some false)) else (none))) = some r := by rw [if_pos rfl] at H; exact H
  clear H
  have H := H1
  clear H1
  by_cases c4 : (a0.size : Int) > 1
  ·rw [if_pos c4] at H
   have c4b0 : decide (1 < (a0.size : Int)) = true := decide_eq_true c4
   have c4b1 : decide (1 < a0.size) = true := decide_eq_true (by omega)
   clear c4
   obtain rfl := Option.some.inj H
   go_enter Try.func40, Try.ntmps40
   go_wp2_with (first | ((with_reducible refine gate_callee (f := 72) rfl ?_); refine ge_ (some 4) rfl rfl Try.func72 (by kernel_rfl) rfl #[.string a0] rfl (h := ?_); (with_reducible refine (calamusref03_Is.calls k a0 true _ A2.out).mono ?_); rintro e w5 ⟨rfl, hb⟩; refine ⟨_, rfl, ?_⟩; replace HB := bs_ HB hb; (try clear hb); (try clear hb2); (try clear hk); (try clear hi)))
   go_ret
   exact ⟨er_, hb_ HB⟩
  ·rw [if_neg c4] at H
   have c4b0 : decide (1 < (a0.size : Int)) = false := decide_eq_false c4
   have c4b1 : decide (1 < a0.size) = false := decide_eq_false (by omega)
   clear c4
   by_cases c6 : 0 < (a0.size : Int)
   ·rw [if_pos c6] at H
    have c6b0 : decide (0 < (a0.size : Int)) = true := decide_eq_true c6
    have c6b1 : decide (0 < a0.size) = true := decide_eq_true (by omega)
    clear c6
    by_cases c8 : (bt a0 0) ≥ 32
    ·rw [if_pos c8] at H
     have c8b0 : decide (32 ≤ (bt a0 0)) = true := decide_eq_true c8
     clear c8
     obtain rfl := Option.some.inj H
     go_enter Try.func40, Try.ntmps40
     go_wp2_with (first | ((with_reducible refine gate_callee (f := 72) rfl ?_); refine ge_ (some 4) rfl rfl Try.func72 (by kernel_rfl) rfl #[.string a0] rfl (h := ?_); (with_reducible refine (calamusref03_Is.calls k a0 true _ A2.out).mono ?_); rintro e w10 ⟨rfl, hb⟩; refine ⟨_, rfl, ?_⟩; replace HB := bs_ HB hb; (try clear hb); (try clear hb2); (try clear hk); (try clear hi); have p7 : 0 ≤ (0 : Int) := (by omega); have q7 : 0 < a0.size := (by have : (0 : Int) < (a0.size : Int) := of_decide_eq_true as_; omega); have hx7 : ∀ h : 0 < a0.size, ((a0[0]'h).toNat : Int) = bt a0 0 := bt_at a0 0; clear p7; have qi7 : (0 < (a0.size : Int)) = True := eq_true (of_decide_eq_true as_); replace q7 := eq_true q7; have p9 : 0 ≤ (0 : Int) := (by omega); have q9 : 0 < a0.size := (by have : (0 : Int) < (a0.size : Int) := of_decide_eq_true as_; omega); have hx9 : ∀ h : 0 < a0.size, ((a0[0]'h).toNat : Int) = bt a0 0 := bt_at a0 0; clear p9; have qi9 : (0 < (a0.size : Int)) = True := eq_true (of_decide_eq_true as_); replace q9 := eq_true q9))
     go_ret
     exact ⟨er_, hb_ HB⟩
    ·rw [if_neg c8] at H
     have c8b0 : decide (32 ≤ (bt a0 0)) = false := decide_eq_false c8
     clear c8
     obtain rfl := Option.some.inj H
     go_enter Try.func40, Try.ntmps40
     go_wp2_with (first | ((with_reducible refine gate_callee (f := 72) rfl ?_); refine ge_ (some 4) rfl rfl Try.func72 (by kernel_rfl) rfl #[.string a0] rfl (h := ?_); (with_reducible refine (calamusref03_Is.calls k a0 true _ A2.out).mono ?_); rintro e w11 ⟨rfl, hb⟩; refine ⟨_, rfl, ?_⟩; replace HB := bs_ HB hb; (try clear hb); (try clear hb2); (try clear hk); (try clear hi); have p7 : 0 ≤ (0 : Int) := (by omega); have q7 : 0 < a0.size := (by have : (0 : Int) < (a0.size : Int) := of_decide_eq_true as_; omega); have hx7 : ∀ h : 0 < a0.size, ((a0[0]'h).toNat : Int) = bt a0 0 := bt_at a0 0; clear p7; have qi7 : (0 < (a0.size : Int)) = True := eq_true (of_decide_eq_true as_); replace q7 := eq_true q7))
     go_ret
     exact ⟨er_, hb_ HB⟩
   ·rw [if_neg c6] at H
    exact absurd H (by simp)
 ·replace c3 := Bool.eq_false_iff.mpr c3
  subst c3
  have H1 : (some false) = some r := by rw [if_neg (show ¬ (false = true) by decide)] at H; exact H
  clear H
  have H := H1
  clear H1
  obtain rfl := Option.some.inj H
  go_enter Try.func40, Try.ntmps40
  go_wp2_with (first | ((with_reducible refine gate_callee (f := 72) rfl ?_); refine ge_ (some 4) rfl rfl Try.func72 (by kernel_rfl) rfl #[.string a0] rfl (h := ?_); (with_reducible refine (calamusref03_Is.calls k a0 false _ A2.out).mono ?_); rintro e w12 ⟨rfl, hb⟩; refine ⟨_, rfl, ?_⟩; replace HB := bs_ HB hb; (try clear hb); (try clear hb2); (try clear hk); (try clear hi)))
  go_ret
  exact ⟨er_, hb_ HB⟩

end Go.Proofs.Ytealbonfaebikaa.PKeyNames
