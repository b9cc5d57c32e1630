/- Of the law calamus/calamuslaw33.RecordTorn: each function as a plain Lean function, with a proof that the call comes to it; the row. By wip/tpl/own_print.py. Conditions: none but the row's own. -/
import Derived.Test.YtealbonfaebikaaORecordTornx0
import Derived.Test.YtealbonfaebikaaORecordTornx3
import Derived.Test.YtealbonfaebikaaORecordTornx5
import Derived.Test.YtealbonfaebikaaORecordTornx6
namespace Go.Proofs.Ytealbonfaebikaa.PRecordTorn
open Go.RowKit Go.Proofs.YtealbonfaebikaaW.PrintWords Go.Proofs.YtealbonfaebikaaW.PrintLast Go.Proofs.YtealbonfaebikaaW.PrintMore
attribute [local go_sem] max2_int min2_int max_two min_two max_three min_three max_four min_four   -- for this text's walks alone
set_option linter.unusedVariables false
set_option linter.unusedSimpArgs false

/-! ### calamuslaw33_RecordTorn: function 7 -/
mutual
def calamuslaw33_RecordTorn.j0 : Nat → List (S26) → Int → Int → List (S24) → ByteArray → Bool → Option (Bool)
 | 0, _, _, _, _, _, _ => none
 | k + 1, x0, x1, x2, x7, x8, x34 => if x34 = true then (calamuslaw33_RecordTorn.j1 k x0 x1 (x8.size : Int) x7 x8) else (calamuslaw33_RecordTorn.j1 k x0 x1 x2 x7 x8)
def calamuslaw33_RecordTorn.j1 : Nat → List (S26) → Int → Int → List (S24) → ByteArray → Option (Bool)
 | 0, _, _, _, _, _ => none
 | k + 1, x0, x1, x2, x7, x8 => if 0 ≤ x2 then (if x2 ≤ (x8.size : Int) then ((record_Scan.f k (x8.extract 0 (x2 : Int).toNat) x1).bind fun bt206 => (if bt206.2 > x2 then (calamuslaw33_RecordTorn.j2 k x0 x1 x2 x7 x8 bt206.1 bt206.2 true) else (if (bt206.1.length : Int) > (x7.length : Int) then (calamuslaw33_RecordTorn.j2 k x0 x1 x2 x7 x8 bt206.1 bt206.2 true) else (if 0 ≤ (bt206.1.length : Int) then (if (bt206.1.length : Int) ≤ (x7.length : Int) then ((calamuslaw33_same.f k bt206.1 (x7.take ((bt206.1.length : Int) : Int).toNat)).bind fun t214 => (calamuslaw33_RecordTorn.j2 k x0 x1 x2 x7 x8 bt206.1 bt206.2 (!t214))) else (none)) else (none))))) else (none)) else (none)
def calamuslaw33_RecordTorn.j2 : Nat → List (S26) → Int → Int → List (S24) → ByteArray → List (S24) → Int → Bool → Option (Bool)
 | 0, _, _, _, _, _, _, _, _ => none
 | k + 1, x0, x1, x2, x7, x8, x9, x10, x63 => if x63 = true then (some false) else (calamuslaw33_RecordTorn.l0 k x0 x1 x2 x7 x8 x9 x10 0 0)
def calamuslaw33_RecordTorn.l0 : Nat → List (S26) → Int → Int → List (S24) → ByteArray → List (S24) → Int → Int → Int → Option (Bool)
 | 0, _, _, _, _, _, _, _, _, _ => none
 | k + 1, x0, x1, x2, x7, x8, x9, x10, x11, x12 => if x12 < (x9.length : Int) then (if 0 ≤ x12 then ((record_Bytes.f k ((rd_T24 x9 x12).f0) ((rd_T24 x9 x12).f1) ((rd_T24 x9 x12).f2) ((rd_T24 x9 x12).f3)).bind fun t216 => (calamuslaw33_RecordTorn.l0 k x0 x1 x2 x7 x8 x9 x10 (wrap64 (x11 + (t216.size : Int))) (wrap64 (x12 + 1)))) else (none)) else (if x11 = x10 then (if (x9.length : Int) < (x7.length : Int) then (if 0 ≤ (x9.length : Int) then ((record_Bytes.f k ((rd_T24 x7 (x9.length : Int)).f0) ((rd_T24 x7 (x9.length : Int)).f1) ((rd_T24 x7 (x9.length : Int)).f2) ((rd_T24 x7 (x9.length : Int)).f3)).bind fun t218 => (calamuslaw33_RecordTorn.j4 k x0 x1 x7 x8 (decide ((wrap64 (x10 + (t218.size : Int))) ≤ x2)))) else (none)) else (calamuslaw33_RecordTorn.j4 k x0 x1 x7 x8 false)) else (calamuslaw33_RecordTorn.j4 k x0 x1 x7 x8 true))
def calamuslaw33_RecordTorn.j4 : Nat → List (S26) → Int → List (S24) → ByteArray → Bool → Option (Bool)
 | 0, _, _, _, _, _ => none
 | k + 1, x0, x1, x7, x8, x100 => if x100 = true then (some false) else ((calamuslaw33_chain.f k x0 (wrap64 ((Int.tmod x1 5) + 1))).bind fun bt219 => (if x8.size + bt219.2.size ≤ 9223372036854775807 then ((record_Scan.f k (x8 ++ bt219.2) x1).bind fun bt223 => (if (wrap64 ((Int.tmod x1 5) + 1)) = x1 then ((calamuslaw33_lives.f k).bind fun t227 => (some t227)) else ((calamuslaw33_same.f k bt223.1 x7).bind fun t228 => (if t228 = true then ((calamuslaw33_lives.f k).bind fun t229 => (some t229)) else (some false))))) else (none)))
end
def calamuslaw33_RecordTorn.f (k : Nat) (l0 : List (S26)) (a1 : Int) (a2 : Int) : Option (Bool) := if (l0.length : Int) > 60 then ((calamuslaw33_lives.f k).bind fun t201 => (some t201)) else ((calamuslaw33_chain.f k l0 a1).bind fun bt202 => (if a2 < 0 then (calamuslaw33_RecordTorn.j0 k l0 a1 a2 bt202.1 bt202.2 true) else (calamuslaw33_RecordTorn.j0 k l0 a1 a2 bt202.1 bt202.2 (decide (a2 > (bt202.2.size : Int))))))
theorem calamuslaw33_RecordTorn.mono_l : ∀ k, (∀ y0 y1 y2 y3 y4 y5, LeO (calamuslaw33_RecordTorn.j0 k y0 y1 y2 y3 y4 y5) (calamuslaw33_RecordTorn.j0 (k + 1) y0 y1 y2 y3 y4 y5)) ∧ (∀ y0 y1 y2 y3 y4, LeO (calamuslaw33_RecordTorn.j1 k y0 y1 y2 y3 y4) (calamuslaw33_RecordTorn.j1 (k + 1) y0 y1 y2 y3 y4)) ∧ (∀ y0 y1 y2 y3 y4 y5 y6 y7, LeO (calamuslaw33_RecordTorn.j2 k y0 y1 y2 y3 y4 y5 y6 y7) (calamuslaw33_RecordTorn.j2 (k + 1) y0 y1 y2 y3 y4 y5 y6 y7)) ∧ (∀ y0 y1 y2 y3 y4 y5 y6 y7 y8, LeO (calamuslaw33_RecordTorn.l0 k y0 y1 y2 y3 y4 y5 y6 y7 y8) (calamuslaw33_RecordTorn.l0 (k + 1) y0 y1 y2 y3 y4 y5 y6 y7 y8)) ∧ (∀ y0 y1 y2 y3 y4, LeO (calamuslaw33_RecordTorn.j4 k y0 y1 y2 y3 y4) (calamuslaw33_RecordTorn.j4 (k + 1) y0 y1 y2 y3 y4))
 | 0 => ⟨fun _ _ _ _ _ _ r h => by simp [calamuslaw33_RecordTorn.j0] at h, fun _ _ _ _ _ r h => by simp [calamuslaw33_RecordTorn.j1] at h, fun _ _ _ _ _ _ _ _ r h => by simp [calamuslaw33_RecordTorn.j2] at h, fun _ _ _ _ _ _ _ _ _ r h => by simp [calamuslaw33_RecordTorn.l0] at h, fun _ _ _ _ _ r h => by simp [calamuslaw33_RecordTorn.j4] at h⟩
 | k + 1 => by
  obtain ⟨ih0, ih1, ih2, ih3, ih4⟩ := calamuslaw33_RecordTorn.mono_l k
  refine ⟨?_, ?_, ?_, ?_, ?_⟩
  ·intro y0 y1 y2 y3 y4 y5
   unfold calamuslaw33_RecordTorn.j0
   repeat' first
   | (with_reducible exact ih0 _ _ _ _ _ _)
   | (with_reducible exact ih1 _ _ _ _ _)
   | (with_reducible exact ih2 _ _ _ _ _ _ _ _)
   | (with_reducible exact ih3 _ _ _ _ _ _ _ _ _)
   | (with_reducible exact ih4 _ _ _ _ _)
   | (with_reducible exact calamuslaw33_chain.mono _ _ _)
   | (with_reducible exact calamuslaw33_lives.mono _)
   | (with_reducible exact calamuslaw33_same.mono _ _ _)
   | (with_reducible exact record_Bytes.mono _ _ _ _ _)
   | (with_reducible exact record_Scan.mono _ _ _)
   | (with_reducible exact LeO.refl _)
   | (with_reducible exact LeO.none _)
   | (with_reducible refine LeO.ite ?_ ?_)
   | (with_reducible refine LeO.bind ?_ (fun _ => ?_))
   | exact ih0 _ _ _ _ _ _
   | exact ih1 _ _ _ _ _
   | exact ih2 _ _ _ _ _ _ _ _
   | exact ih3 _ _ _ _ _ _ _ _ _
   | exact ih4 _ _ _ _ _
   | exact calamuslaw33_chain.mono _ _ _
   | exact calamuslaw33_lives.mono _
   | exact calamuslaw33_same.mono _ _ _
   | exact record_Bytes.mono _ _ _ _ _
   | exact record_Scan.mono _ _ _
   | exact LeO.none _
   | refine LeO.ite ?_ ?_
   | refine LeO.bind ?_ (fun _ => ?_)
  ·intro y0 y1 y2 y3 y4
   unfold calamuslaw33_RecordTorn.j1
   repeat' first
   | (with_reducible exact ih0 _ _ _ _ _ _)
   | (with_reducible exact ih1 _ _ _ _ _)
   | (with_reducible exact ih2 _ _ _ _ _ _ _ _)
   | (with_reducible exact ih3 _ _ _ _ _ _ _ _ _)
   | (with_reducible exact ih4 _ _ _ _ _)
   | (with_reducible exact calamuslaw33_chain.mono _ _ _)
   | (with_reducible exact calamuslaw33_lives.mono _)
   | (with_reducible exact calamuslaw33_same.mono _ _ _)
   | (with_reducible exact record_Bytes.mono _ _ _ _ _)
   | (with_reducible exact record_Scan.mono _ _ _)
   | (with_reducible exact LeO.refl _)
   | (with_reducible exact LeO.none _)
   | (with_reducible refine LeO.ite ?_ ?_)
   | (with_reducible refine LeO.bind ?_ (fun _ => ?_))
   | exact ih0 _ _ _ _ _ _
   | exact ih1 _ _ _ _ _
   | exact ih2 _ _ _ _ _ _ _ _
   | exact ih3 _ _ _ _ _ _ _ _ _
   | exact ih4 _ _ _ _ _
   | exact calamuslaw33_chain.mono _ _ _
   | exact calamuslaw33_lives.mono _
   | exact calamuslaw33_same.mono _ _ _
   | exact record_Bytes.mono _ _ _ _ _
   | exact record_Scan.mono _ _ _
   | exact LeO.none _
   | refine LeO.ite ?_ ?_
   | refine LeO.bind ?_ (fun _ => ?_)
  ·intro y0 y1 y2 y3 y4 y5 y6 y7
   unfold calamuslaw33_RecordTorn.j2
   repeat' first
   | (with_reducible exact ih0 _ _ _ _ _ _)
   | (with_reducible exact ih1 _ _ _ _ _)
   | (with_reducible exact ih2 _ _ _ _ _ _ _ _)
   | (with_reducible exact ih3 _ _ _ _ _ _ _ _ _)
   | (with_reducible exact ih4 _ _ _ _ _)
   | (with_reducible exact calamuslaw33_chain.mono _ _ _)
   | (with_reducible exact calamuslaw33_lives.mono _)
   | (with_reducible exact calamuslaw33_same.mono _ _ _)
   | (with_reducible exact record_Bytes.mono _ _ _ _ _)
   | (with_reducible exact record_Scan.mono _ _ _)
   | (with_reducible exact LeO.refl _)
   | (with_reducible exact LeO.none _)
   | (with_reducible refine LeO.ite ?_ ?_)
   | (with_reducible refine LeO.bind ?_ (fun _ => ?_))
   | exact ih0 _ _ _ _ _ _
   | exact ih1 _ _ _ _ _
   | exact ih2 _ _ _ _ _ _ _ _
   | exact ih3 _ _ _ _ _ _ _ _ _
   | exact ih4 _ _ _ _ _
   | exact calamuslaw33_chain.mono _ _ _
   | exact calamuslaw33_lives.mono _
   | exact calamuslaw33_same.mono _ _ _
   | exact record_Bytes.mono _ _ _ _ _
   | exact record_Scan.mono _ _ _
   | exact LeO.none _
   | refine LeO.ite ?_ ?_
   | refine LeO.bind ?_ (fun _ => ?_)
  ·intro y0 y1 y2 y3 y4 y5 y6 y7 y8
   unfold calamuslaw33_RecordTorn.l0
   repeat' first
   | (with_reducible exact ih0 _ _ _ _ _ _)
   | (with_reducible exact ih1 _ _ _ _ _)
   | (with_reducible exact ih2 _ _ _ _ _ _ _ _)
   | (with_reducible exact ih3 _ _ _ _ _ _ _ _ _)
   | (with_reducible exact ih4 _ _ _ _ _)
   | (with_reducible exact calamuslaw33_chain.mono _ _ _)
   | (with_reducible exact calamuslaw33_lives.mono _)
   | (with_reducible exact calamuslaw33_same.mono _ _ _)
   | (with_reducible exact record_Bytes.mono _ _ _ _ _)
   | (with_reducible exact record_Scan.mono _ _ _)
   | (with_reducible exact LeO.refl _)
   | (with_reducible exact LeO.none _)
   | (with_reducible refine LeO.ite ?_ ?_)
   | (with_reducible refine LeO.bind ?_ (fun _ => ?_))
   | exact ih0 _ _ _ _ _ _
   | exact ih1 _ _ _ _ _
   | exact ih2 _ _ _ _ _ _ _ _
   | exact ih3 _ _ _ _ _ _ _ _ _
   | exact ih4 _ _ _ _ _
   | exact calamuslaw33_chain.mono _ _ _
   | exact calamuslaw33_lives.mono _
   | exact calamuslaw33_same.mono _ _ _
   | exact record_Bytes.mono _ _ _ _ _
   | exact record_Scan.mono _ _ _
   | exact LeO.none _
   | refine LeO.ite ?_ ?_
   | refine LeO.bind ?_ (fun _ => ?_)
  ·intro y0 y1 y2 y3 y4
   unfold calamuslaw33_RecordTorn.j4
   repeat' first
   | (with_reducible exact ih0 _ _ _ _ _ _)
   | (with_reducible exact ih1 _ _ _ _ _)
   | (with_reducible exact ih2 _ _ _ _ _ _ _ _)
   | (with_reducible exact ih3 _ _ _ _ _ _ _ _ _)
   | (with_reducible exact ih4 _ _ _ _ _)
   | (with_reducible exact calamuslaw33_chain.mono _ _ _)
   | (with_reducible exact calamuslaw33_lives.mono _)
   | (with_reducible exact calamuslaw33_same.mono _ _ _)
   | (with_reducible exact record_Bytes.mono _ _ _ _ _)
   | (with_reducible exact record_Scan.mono _ _ _)
   | (with_reducible exact LeO.refl _)
   | (with_reducible exact LeO.none _)
   | (with_reducible refine LeO.ite ?_ ?_)
   | (with_reducible refine LeO.bind ?_ (fun _ => ?_))
   | exact ih0 _ _ _ _ _ _
   | exact ih1 _ _ _ _ _
   | exact ih2 _ _ _ _ _ _ _ _
   | exact ih3 _ _ _ _ _ _ _ _ _
   | exact ih4 _ _ _ _ _
   | exact calamuslaw33_chain.mono _ _ _
   | exact calamuslaw33_lives.mono _
   | exact calamuslaw33_same.mono _ _ _
   | exact record_Bytes.mono _ _ _ _ _
   | exact record_Scan.mono _ _ _
   | exact LeO.none _
   | refine LeO.ite ?_ ?_
   | refine LeO.bind ?_ (fun _ => ?_)
theorem calamuslaw33_RecordTorn.mono : ∀ a0 a1 a2 k, LeO (calamuslaw33_RecordTorn.f k a0 a1 a2) (calamuslaw33_RecordTorn.f (k + 1) a0 a1 a2) := by
 intro a0 a1 a2 k
 obtain ⟨ih0, ih1, ih2, ih3, ih4⟩ := calamuslaw33_RecordTorn.mono_l k
 unfold calamuslaw33_RecordTorn.f
 repeat' first
   | (with_reducible exact ih0 _ _ _ _ _ _)
   | (with_reducible exact ih1 _ _ _ _ _)
   | (with_reducible exact ih2 _ _ _ _ _ _ _ _)
   | (with_reducible exact ih3 _ _ _ _ _ _ _ _ _)
   | (with_reducible exact ih4 _ _ _ _ _)
   | (with_reducible exact calamuslaw33_chain.mono _ _ _)
   | (with_reducible exact calamuslaw33_lives.mono _)
   | (with_reducible exact calamuslaw33_same.mono _ _ _)
   | (with_reducible exact record_Bytes.mono _ _ _ _ _)
   | (with_reducible exact record_Scan.mono _ _ _)
   | (with_reducible exact LeO.refl _)
   | (with_reducible exact LeO.none _)
   | (with_reducible refine LeO.ite ?_ ?_)
   | (with_reducible refine LeO.bind ?_ (fun _ => ?_))
   | exact ih0 _ _ _ _ _ _
   | exact ih1 _ _ _ _ _
   | exact ih2 _ _ _ _ _ _ _ _
   | exact ih3 _ _ _ _ _ _ _ _ _
   | exact ih4 _ _ _ _ _
   | exact calamuslaw33_chain.mono _ _ _
   | exact calamuslaw33_lives.mono _
   | exact calamuslaw33_same.mono _ _ _
   | exact record_Bytes.mono _ _ _ _ _
   | exact record_Scan.mono _ _ _
   | exact LeO.none _
   | refine LeO.ite ?_ ?_
   | refine LeO.bind ?_ (fun _ => ?_)
set_option maxHeartbeats 8000000 in
set_option maxRecDepth 100000 in
theorem calamuslaw33_RecordTorn.calls (k : Nat) (A0 : Option Addr) (c0 : Nat) (l0 : List (S26)) (a1 : Int) (a2 : Int) (r : Bool) (w : World) (hr0 : Kd.C k26 w A0 l0.length l0) (hc0 : l0.length ≤ c0) (h : calamuslaw33_RecordTorn.f k l0 a1 a2 = some r) (hr_ : r = true := by rfl) :
  Calls Try.prog 7 #[.slice A0 l0.length c0, .int .i64 a1, .int .i64 a2] w fun e w' => e = .returned (.bool r) ∧ Below w.heap.size w w' := by
 have hu24 := Try.underlying24
 have HR0 := Aside0.mk hr0
 have HC0 := Aside0.mk hc0
 clear hr0 hc0
 have HB := Aside0.mk (Below.refl w.heap.size w)
 have H : (if (l0.length : Int) > 60 then ((calamuslaw33_lives.f k).bind fun t201 => (some t201)) else ((calamuslaw33_chain.f k l0 a1).bind fun bt202 => (if a2 < 0 then (calamuslaw33_RecordTorn.j0 k l0 a1 a2 bt202.1 bt202.2 true) else (calamuslaw33_RecordTorn.j0 k l0 a1 a2 bt202.1 bt202.2 (decide (a2 > (bt202.2.size : Int))))))) = some r := h
 clear h
 by_cases c4 : (l0.length : Int) > 60
 ·rw [if_pos c4] at H
  have c4b0 : decide (60 < (l0.length : Int)) = true := decide_eq_true c4
  have c4b1 : decide (60 < l0.length) = true := decide_eq_true (by omega)
  clear c4
  replace H := Option.bind_eq_some_iff.mp H
  obtain ⟨t201, A50, H⟩ := H
  replace H : (some t201) = some r := H
  have A5 := Aside0.mk A50
  clear A50
  obtain rfl := Option.some.inj H
  go_enter Try.func7, Try.ntmps7
  go_wp2_with (first | ((with_reducible refine gate_callee (f := 17) rfl ?_); refine ge_ (some 20) rfl rfl Try.func17 (by kernel_rfl) rfl #[] rfl (h := ?_); (with_reducible refine (calamuslaw33_lives.calls k  t201 _ A5.out).mono ?_); rintro e w6 ⟨rfl, hb⟩; refine ⟨_, rfl, ?_⟩; replace HB := bs_ HB hb; (try clear hb); (try clear hb2); (try clear hk); (try clear hi)))
  go_ret
  exact ⟨er_, hb_ HB⟩
 ·rw [if_neg c4] at H
  have c4b0 : decide (60 < (l0.length : Int)) = false := decide_eq_false c4
  have c4b1 : decide (60 < l0.length) = false := decide_eq_false (by omega)
  clear c4
  replace H := Option.bind_eq_some_iff.mp H
  obtain ⟨⟨t202, t203⟩, A70, H⟩ := H
  replace H : (if a2 < 0 then (calamuslaw33_RecordTorn.j0 k l0 a1 a2 t202 t203 true) else (calamuslaw33_RecordTorn.j0 k l0 a1 a2 t202 t203 (decide (a2 > (t203.size : Int))))) = some r := H
  have A7 := Aside0.mk A70
  clear A70
  have HC8 := Aside0.mk H
  clear H
  go_enter Try.func7, Try.ntmps7
  go_upto_region 4 with (first | ((with_reducible refine gate_callee (f := 30) rfl ?_); refine ge_ (some 24) rfl rfl Try.func30 (by kernel_rfl) rfl #[.slice A0 l0.length c0, .int .i64 a1] rfl (h := ?_); (with_reducible refine (calamuslaw33_chain.calls k _ _ l0 a1 t202 t203 _ ?side1 ?side2 A7.out).mono ?_); (case side1 => exact cw_ HR0.out); (case side2 => exact HC0.out); rintro e w9 ⟨v204, rfl, ho0, hb⟩; refine ⟨_, rfl, ?_⟩; have HO205 := Aside0.mk (Kd.R_lower ho0 (below_size (hb_ HB))); replace HB := bs_ HB hb; (try clear hb); (try clear hb2); (try clear hk); (try clear hi); (try clear ho0)))
  (try simp only [Act.put, List.setIfInBounds_toArray, List.set_cons_zero, List.set_cons_succ])
  go_cut [34] (fun v34 wc => ∃ (kq : Nat) (x34_7 : Bool), v34 = .bool x34_7 ∧ Aside0 (calamuslaw33_RecordTorn.j0 kq l0 a1 a2 t202 t203 x34_7 = some r) ∧ Aside0 (kq ≤ k) ∧ Aside0 (Kd.R k24 24 wc w.heap.size (fun _ => True) v204 t202) ∧ Aside0 (Below w.heap.size w wc))
  case first =>
   have H := HC8.out
   clear HC8
   by_cases c10 : a2 < 0
   ·rw [if_pos c10] at H
    have c10b0 : decide (a2 < 0) = true := decide_eq_true c10
    clear c10
    (first | rw [c10b0] | (simp only [i64_w, i32_w]; rw [c10b0]) | skip)
    have H' := Aside0.mk H
    clear H
    go_wp2
    go_meet
    case rel => exact ⟨_, (true), es_, H', ⟨by first | omega | exact Nat.le_refl _⟩, ⟨rw_ HO205.out⟩, ⟨hb_ HB⟩⟩
   ·rw [if_neg c10] at H
    have c10b0 : decide (a2 < 0) = false := decide_eq_false c10
    clear c10
    (first | rw [c10b0] | (simp only [i64_w, i32_w]; rw [c10b0]) | skip)
    have H' := Aside0.mk H
    clear H
    go_wp2
    go_meet
    case rel => exact ⟨_, (decide (a2 > (t203.size : Int))), es_, H', ⟨by first | omega | exact Nat.le_refl _⟩, ⟨rw_ HO205.out⟩, ⟨hb_ HB⟩⟩
  case rest =>
   clear HC8
   try clear c4
   try clear c4b0
   try clear c4b1
   obtain ⟨kq, x34_7, rfl, HA, HJ7, HO_7, HB⟩ := hcut
   cases kq with
   | zero => exact absurd HA.out (by simp [calamuslaw33_RecordTorn.j0])
   | succ kj7 =>
    have H := HA.out
    clear HA
    simp only [calamuslaw33_RecordTorn.j0] at H
    have HC11 := Aside0.mk H
    clear H
    go_upto_if 34 with (fail)
    go_cut [2] (fun v2 wc => ∃ (kq : Nat) (x2_10 : Int), v2 = .int .i64 x2_10 ∧ Aside0 (calamuslaw33_RecordTorn.j1 kq l0 a1 x2_10 t202 t203 = some r) ∧ Aside0 (kq ≤ kj7) ∧ Aside0 (Kd.R k24 24 wc w.heap.size (fun _ => True) v204 t202) ∧ Aside0 (Below w.heap.size w wc))
    case first =>
     have H := HC11.out
     clear HC11
     by_cases c12 : x34_7 = true
     ·subst c12
      have H1 : (calamuslaw33_RecordTorn.j1 kj7 l0 a1 (t203.size : Int) t202 t203) = some r := by rw [if_pos rfl] at H; exact H
      clear H
      have H := H1
      clear H1
      have H' := Aside0.mk H
      clear H
      go_wp2
      go_meet
      case rel => exact ⟨_, ((t203.size : Int)), es_, H', ⟨by have := HJ7.out; first | omega | exact Nat.le_refl _⟩, ⟨rw_ HO_7.out⟩, ⟨hb_ HB⟩⟩
     ·replace c12 := Bool.eq_false_iff.mpr c12
      subst c12
      have H1 : (calamuslaw33_RecordTorn.j1 kj7 l0 a1 a2 t202 t203) = some r := by rw [if_neg (show ¬ (false = true) by decide)] at H; exact H
      clear H
      have H := H1
      clear H1
      have H' := Aside0.mk H
      clear H
      go_wp2
      go_meet
      case rel => exact ⟨_, (a2), es_, H', ⟨by have := HJ7.out; first | omega | exact Nat.le_refl _⟩, ⟨rw_ HO_7.out⟩, ⟨hb_ HB⟩⟩
    case rest =>
     clear HC11
     try clear c4
     try clear c4b0
     try clear c4b1
     obtain ⟨kq, x2_10, rfl, HA, HJ10, HO_7, HB⟩ := hcut
     cases kq with
     | zero => exact absurd HA.out (by simp [calamuslaw33_RecordTorn.j1])
     | succ kj10 =>
      have H := HA.out
      clear HA
      simp only [calamuslaw33_RecordTorn.j1] at H
      by_cases c13 : 0 ≤ x2_10
      ·rw [if_pos c13] at H
       have c13b0 := eq_true c13
       try (have c13b0x := c13b0; simp only [ByteArray.size_extract, Nat.min_self] at c13b0x)
       have c13b1 : decide (0 ≤ x2_10) = true := decide_eq_true c13
       clear c13
       by_cases c14 : x2_10 ≤ (t203.size : Int)
       ·rw [if_pos c14] at H
        have c14b0 := eq_true c14
        try (have c14b0x := c14b0; simp only [ByteArray.size_extract, Nat.min_self] at c14b0x)
        have c14b1 : decide (x2_10 ≤ (t203.size : Int)) = true := decide_eq_true c14
        clear c14
        replace H := Option.bind_eq_some_iff.mp H
        obtain ⟨⟨t206, t207⟩, A150, H⟩ := H
        replace H : (if t207 > x2_10 then (calamuslaw33_RecordTorn.j2 kj10 l0 a1 x2_10 t202 t203 t206 t207 true) else (if (t206.length : Int) > (t202.length : Int) then (calamuslaw33_RecordTorn.j2 kj10 l0 a1 x2_10 t202 t203 t206 t207 true) else (if 0 ≤ (t206.length : Int) then (if (t206.length : Int) ≤ (t202.length : Int) then ((calamuslaw33_same.f kj10 t206 (t202.take ((t206.length : Int) : Int).toNat)).bind fun t214 => (calamuslaw33_RecordTorn.j2 kj10 l0 a1 x2_10 t202 t203 t206 t207 (!t214))) else (none)) else (none)))) = some r := H
        have A15 := Aside0.mk A150
        clear A150
        have HC16 := Aside0.mk H
        clear H
        go_upto_region 7 with (first | ((with_reducible refine gate_callee (f := 26) rfl ?_); refine ge_ (some 42) rfl rfl Try.func26 (by kernel_rfl) rfl #[.string (t203.extract 0 (x2_10 : Int).toNat), .int .i64 a1] rfl (h := ?_); (with_reducible refine (record_Scan.calls kj10 (t203.extract 0 (x2_10 : Int).toNat) a1 t206 t207 _ A15.out).mono ?_); rintro e w17 ⟨v208, rfl, ho0, hb⟩; refine ⟨_, rfl, ?_⟩; have HO209 := Aside0.mk (Kd.R_lower (Kd.R_new' ho0 (Kd.R_lt (rw_ HO_7.out))) (below_size (hb_ HB))); replace HO_7 := Aside0.mk (Kd.R_elder' (rw_ HO_7.out) (Kd.R_base ho0) hb); replace HB := bs_ HB hb; (try clear hb); (try clear hb2); (try clear hk); (try clear hi); (try clear ho0)))
        (try simp only [Act.put, List.setIfInBounds_toArray, List.set_cons_zero, List.set_cons_succ])
        go_cut [63] (fun v63 wc => ∃ (kq : Nat) (x63_15 : Bool), v63 = .bool x63_15 ∧ Aside0 (calamuslaw33_RecordTorn.j2 kq l0 a1 x2_10 t202 t203 t206 t207 x63_15 = some r) ∧ Aside0 (kq ≤ kj10) ∧ Aside0 (Kd.R k24 24 wc w.heap.size (fun k_ => some k_ ≠ (v208 : Value).ownBlock) v204 t202) ∧ Aside0 (Kd.R k24 24 wc w.heap.size (fun k_ => some k_ ≠ (v204 : Value).ownBlock) v208 t206) ∧ Aside0 (Below w.heap.size w wc))
        case first =>
         have H := HC16.out
         clear HC16
         by_cases c18 : t207 > x2_10
         ·rw [if_pos c18] at H
          have c18b0 : decide (x2_10 < t207) = true := decide_eq_true c18
          clear c18
          (first | rw [c18b0] | (simp only [i64_w, i32_w]; rw [c18b0]) | skip)
          have H' := Aside0.mk H
          clear H
          go_wp2
          go_meet
          case rel => exact ⟨_, (true), es_, H', ⟨by have := HJ7.out; have := HJ10.out; first | omega | exact Nat.le_refl _⟩, ⟨by (with_reducible repeat (first | apply Kd.R_alloc | apply Kd.R_drewN | apply Kd.R_drew)); exact Kd.R_mono HO_7.out (fun _ hk => hk.2)⟩, ⟨by (with_reducible repeat (first | apply Kd.R_alloc | apply Kd.R_drewN | apply Kd.R_drew)); exact Kd.R_mono HO209.out (fun _ hk => hk.2)⟩, ⟨hb_ HB⟩⟩
         ·rw [if_neg c18] at H
          have c18b0 : decide (x2_10 < t207) = false := decide_eq_false c18
          clear c18
          (first | rw [c18b0] | (simp only [i64_w, i32_w]; rw [c18b0]) | skip)
          by_cases c19 : (t206.length : Int) > (t202.length : Int)
          ·rw [if_pos c19] at H
           have c19b0 : decide ((t202.length : Int) < (t206.length : Int)) = true := decide_eq_true c19
           have c19b1 : decide (t202.length < t206.length) = true := decide_eq_true (Int.ofNat_lt.mp c19)
           clear c19
           have H' := Aside0.mk H
           clear H
           obtain ⟨Ao20, co20, eo20⟩ := Kd.R_slice HO209.out
           subst eo20
           obtain ⟨Ao21, co21, eo21⟩ := Kd.R_slice HO_7.out
           subst eo21
           go_wp2
           go_meet
           case rel => exact ⟨_, (true), es_, H', ⟨by have := HJ7.out; have := HJ10.out; first | omega | exact Nat.le_refl _⟩, ⟨by (with_reducible repeat (first | apply Kd.R_alloc | apply Kd.R_drewN | apply Kd.R_drew)); exact Kd.R_mono HO_7.out (fun _ hk => hk.2)⟩, ⟨by (with_reducible repeat (first | apply Kd.R_alloc | apply Kd.R_drewN | apply Kd.R_drew)); exact Kd.R_mono HO209.out (fun _ hk => hk.2)⟩, ⟨hb_ HB⟩⟩
          ·rw [if_neg c19] at H
           have c19b0 : decide ((t202.length : Int) < (t206.length : Int)) = false := decide_eq_false c19
           have c19b1 : decide (t202.length < t206.length) = false := decide_eq_false (fun h => c19 (Int.ofNat_lt.mpr h))
           clear c19
           by_cases c22 : 0 ≤ (t206.length : Int)
           ·rw [if_pos c22] at H
            have c22b0 := eq_true c22
            try (have c22b0x := c22b0; simp only [ByteArray.size_extract, Nat.min_self] at c22b0x)
            have c22b1 : decide (0 ≤ (t206.length : Int)) = true := decide_eq_true c22
            clear c22
            by_cases c23 : (t206.length : Int) ≤ (t202.length : Int)
            ·rw [if_pos c23] at H
             have c23b0 := eq_true c23
             try (have c23b0x := c23b0; simp only [ByteArray.size_extract, Nat.min_self] at c23b0x)
             have c23b1 : decide ((t206.length : Int) ≤ (t202.length : Int)) = true := decide_eq_true c23
             clear c23
             obtain ⟨y210, hy210⟩ : ∃ y_ : List (S24), y_ = (t202.take ((t206.length : Int) : Int).toNat) := ⟨_, rfl⟩
             replace H : ((calamuslaw33_same.f kj10 t206 y210).bind fun t214 => (calamuslaw33_RecordTorn.j2 kj10 l0 a1 x2_10 t202 t203 t206 t207 (!t214))) = some r := th_ H hy210
             have Ny210 := Aside0.mk hy210
             clear hy210
             replace H := Option.bind_eq_some_iff.mp H
             obtain ⟨t214, A240, H⟩ := H
             replace H : (calamuslaw33_RecordTorn.j2 kj10 l0 a1 x2_10 t202 t203 t206 t207 (!t214)) = some r := H
             have A24 := Aside0.mk A240
             clear A240
             have H' := Aside0.mk H
             clear H
             obtain ⟨Ao25, co25, eo25⟩ := Kd.R_slice HO209.out
             subst eo25
             obtain ⟨Ao26, co26, eo26⟩ := Kd.R_slice HO_7.out
             subst eo26
             have q27 : ((t206.length : Int) : Int) ≤ ((t202.length : Int) : Int) := of_decide_eq_true as_
             obtain ⟨i027, hi027, _, hsz27, _⟩ := info_parts info24
             have hroom27 : t202.length ≤ co26 := (Kd.R_reads' HO_7.out).2.1
             have hC27 : Kd.C k24 _ Ao26 t202.length t202 := (Kd.R_reads' HO_7.out).2.2
             have hcut27 := cut_to (P := Try.prog) 45 24 .i64 Try.underlying45 hi027 Ao26 t202.length co26 (t206.length : Int) (of_decide_eq_true as_) q27 hroom27
             have hr27 := Kd.C_take (m := ((t206.length : Int) : Int).toNat) hC27 (by omega)
             have hy27 : y210.length = ((t206.length : Int) : Int).toNat := (by rw [Ny210.out, List.length_take]; omega)
             rw [← Ny210.out] at hr27
             rw [← hy27] at hcut27
             have HR213 := Aside0.mk hr27
             have HC213 := Aside0.mk (show y210.length ≤ co26 from by omega)
             clear hr27 hC27 hroom27 hi027 hsz27
             have KY27 := Aside0.mk hy27
             clear hy27
             have KL27 := Aside0.mk (show ((t206.length : Int) : Int).toNat ≤ t202.length from by omega)
             replace q27 := eq_true q27
             go_wp2_with (first | (go_at_call 28; (with_reducible refine (calamuslaw33_same.calls kj10 _ _ t206 _ _ y210 t214 _ ?side1 ?side2 ?side3 ?side4 A24.out).mono ?_); (case side1 => repeat (first | exact (Kd.R_reads' HO209.out).2.2 | (with_reducible refine Kd.C_alloc ?_ _) | (with_reducible refine Kd.C_drewN ?_ _) | (with_reducible refine Kd.C_drew ?_))); (case side2 => exact (Kd.R_reads' HO209.out).2.1); (case side3 => repeat (first | exact (by repeat (first | (with_reducible exact HR213.out) | (with_reducible refine Kd.C_alloc ?_ _) | (with_reducible refine Kd.C_drewN ?_ _) | (with_reducible refine Kd.C_drew ?_) | exact HR213.out)) | (with_reducible refine Kd.C_alloc ?_ _) | (with_reducible refine Kd.C_drewN ?_ _) | (with_reducible refine Kd.C_drew ?_))); (case side4 => exact HC213.out); rintro e w' ⟨rfl, ⟨nd, rfl⟩⟩))
             go_meet
             case rel => exact ⟨_, (!t214), es_, H', ⟨by have := HJ7.out; have := HJ10.out; first | omega | exact Nat.le_refl _⟩, ⟨by (with_reducible repeat (first | apply Kd.R_alloc | apply Kd.R_drewN | apply Kd.R_drew)); exact Kd.R_mono HO_7.out (fun _ hk => hk.2)⟩, ⟨by (with_reducible repeat (first | apply Kd.R_alloc | apply Kd.R_drewN | apply Kd.R_drew)); exact Kd.R_mono HO209.out (fun _ hk => hk.2)⟩, ⟨hb_ HB⟩⟩
            ·rw [if_neg c23] at H
             exact absurd H (by simp)
           ·rw [if_neg c22] at H
            exact absurd H (by simp)
        case rest =>
         clear HC16
         try clear c4
         try clear c4b0
         try clear c4b1
         try clear c13
         try clear c13b0
         try clear c13b1
         try clear c14
         try clear c14b0
         try clear c14b1
         obtain ⟨kq, x63_15, rfl, HA, HJ15, HO_7, HO_9, HB⟩ := hcut
         cases kq with
         | zero => exact absurd HA.out (by simp [calamuslaw33_RecordTorn.j2])
         | succ kj15 =>
          have H := HA.out
          clear HA
          simp only [calamuslaw33_RecordTorn.j2] at H
          by_cases c28 : x63_15 = true
          ·subst c28
           have H1 : (some false) = some r := by rw [if_pos rfl] at H; exact H
           clear H
           have H := H1
           clear H1
           exact nf_ H hr_
          ·replace c28 := Bool.eq_false_iff.mpr c28
           subst c28
           have H1 : (calamuslaw33_RecordTorn.l0 kj15 l0 a1 x2_10 t202 t203 t206 t207 0 0) = some r := by rw [if_neg (show ¬ (false = true) by decide)] at H; exact H
           clear H
           have H := H1
           clear H1
           have H' := Aside0.mk H
           clear H
           go_wp2
           go_loopg [11, 12] kj15 (fun kq v11 v12 w' => ∃ (x11_4 : Int) (x12_4 : Int), v11 = .int .i64 x11_4 ∧ v12 = .int .i64 x12_4 ∧ Aside0 (calamuslaw33_RecordTorn.l0 kq l0 a1 x2_10 t202 t203 t206 t207 x11_4 x12_4 = some r) ∧ Aside0 (kq ≤ kj15) ∧ Aside0 (Kd.R k24 24 w' w.heap.size (fun k_ => some k_ ≠ (v208 : Value).ownBlock) v204 t202) ∧ Aside0 (Kd.R k24 24 w' w.heap.size (fun k_ => some k_ ≠ (v204 : Value).ownBlock) v208 t206) ∧ Aside0 (Below w.heap.size w w'))
           case atStart => exact ⟨(0), (0), es_, es_, H', ⟨Nat.le_refl _⟩, ⟨rw_ HO_7.out⟩, ⟨rw_ HO_9.out⟩, ⟨hb_ HB⟩⟩
           case round =>
            clear H'
            try clear c4
            try clear c4b0
            try clear c4b1
            try clear c13
            try clear c13b0
            try clear c13b1
            try clear c14
            try clear c14b0
            try clear c14b1
            try clear c28
            obtain ⟨x11_4, x12_4, rfl, rfl, HA, HK4, HO_7, HO_9, HB⟩ := hrel
            cases gk with
            | zero => exact absurd HA.out (by simp [calamuslaw33_RecordTorn.l0])
            | succ k4 =>
             have H := HA.out
             clear HA
             simp only [calamuslaw33_RecordTorn.l0] at H
             by_cases c29 : x12_4 < (t206.length : Int)
             ·rw [if_pos c29] at H
              have c29b0 : decide (x12_4 < (t206.length : Int)) = true := decide_eq_true c29
              clear c29
              by_cases c30 : 0 ≤ x12_4
              ·rw [if_pos c30] at H
               have c30b0 : decide (0 ≤ x12_4) = true := decide_eq_true c30
               clear c30
               replace H := Option.bind_eq_some_iff.mp H
               obtain ⟨t216, A310, H⟩ := H
               replace H : (calamuslaw33_RecordTorn.l0 k4 l0 a1 x2_10 t202 t203 t206 t207 (wrap64 (x11_4 + (t216.size : Int))) (wrap64 (x12_4 + 1))) = some r := H
               have A31 := Aside0.mk A310
               clear A310
               have H' := Aside0.mk H
               clear H
               obtain ⟨Ao32, co32, eo32⟩ := Kd.R_slice HO_9.out
               subst eo32
               have p215 : 0 ≤ (x12_4 : Int) := of_decide_eq_true as_
               have q215 : x12_4 < (t206.length : Int) := of_decide_eq_true as_
               obtain ⟨ad215, e215, hx215_0, hx215_1, hx215_2, hx215_3⟩ := at_T24 (Kd.R_reads' HO_9.out).2.2 x12_4 p215 q215
               cases e215
               replace p215 := eq_true p215
               replace q215 := eq_true q215
               go_wp2_with (first | ((with_reducible refine gate_callee (f := 22) rfl ?_); refine ge_ (some 75) rfl rfl Try.func22 (by kernel_rfl) rfl #[.agg #[.int .i64 ((rd_T24 t206 x12_4).f0), .int .i64 ((rd_T24 t206 x12_4).f1), .int .i64 ((rd_T24 t206 x12_4).f2), .string ((rd_T24 t206 x12_4).f3)]] rfl (h := ?_); (with_reducible refine (record_Bytes.calls k4 ((rd_T24 t206 x12_4).f0) ((rd_T24 t206 x12_4).f1) ((rd_T24 t206 x12_4).f2) ((rd_T24 t206 x12_4).f3) t216 _ A31.out).mono ?_); rintro e w33 ⟨rfl, hb⟩; refine ⟨_, rfl, ?_⟩; replace HO_7 := Aside0.mk (Kd.R_below (rw_ HO_7.out) hb); replace HO_9 := Aside0.mk (Kd.R_below (rw_ HO_9.out) hb); replace HB := bs_ HB hb; (try clear hb); (try clear hb2); (try clear hk); (try clear hi)))
               go_roundg k4
               case measure => have := HJ7.out; have := HJ10.out; have := HJ15.out; have := HK4.out; omega
               case rel => exact ⟨(wrap64 (x11_4 + (t216.size : Int))), (wrap64 (x12_4 + 1)), es_, es_, H', ⟨by have := HJ7.out; have := HJ10.out; have := HJ15.out; have := HK4.out; omega⟩, ⟨rw_ HO_7.out⟩, ⟨rw_ HO_9.out⟩, ⟨hb_ HB⟩⟩
              ·rw [if_neg c30] at H
               exact absurd H (by simp)
             ·rw [if_neg c29] at H
              have c29b0 : decide (x12_4 < (t206.length : Int)) = false := decide_eq_false c29
              clear c29
              have HC34 := Aside0.mk H
              clear H
              obtain ⟨Ao35, co35, eo35⟩ := Kd.R_slice HO_9.out
              subst eo35
              go_upto_region 14 with (fail)
              go_cut [100] (fun v100 wc => ∃ (kq : Nat) (x100_33 : Bool), v100 = .bool x100_33 ∧ Aside0 (calamuslaw33_RecordTorn.j4 kq l0 a1 t202 t203 x100_33 = some r) ∧ Aside0 (kq ≤ k4) ∧ Aside0 (Kd.R k24 24 wc w.heap.size (fun _ => True) v204 t202) ∧ Aside0 (Below w.heap.size w wc))
              case first =>
               have H := HC34.out
               clear HC34
               by_cases c36 : x11_4 = t207
               ·rw [if_pos c36] at H
                have c36b0 : (x11_4 == t207) = true := beq_iff_eq.mpr c36
                have c36b1 : (x11_4 != t207) = false := bne_eq_false_iff_eq.mpr c36
                clear c36
                (first | rw [c36b0] | (simp only [i64_w, i32_w]; rw [c36b0]) | skip)
                by_cases c37 : (t206.length : Int) < (t202.length : Int)
                ·rw [if_pos c37] at H
                 have c37b0 : decide ((t206.length : Int) < (t202.length : Int)) = true := decide_eq_true c37
                 have c37b1 : decide (t206.length < t202.length) = true := decide_eq_true (Int.ofNat_lt.mp c37)
                 clear c37
                 by_cases c38 : 0 ≤ (t206.length : Int)
                 ·rw [if_pos c38] at H
                  have c38b0 : decide (0 ≤ (t206.length : Int)) = true := decide_eq_true c38
                  have c38b1 : decide (0 ≤ t206.length) = true := decide_eq_true (by omega)
                  clear c38
                  replace H := Option.bind_eq_some_iff.mp H
                  obtain ⟨t218, A390, H⟩ := H
                  replace H : (calamuslaw33_RecordTorn.j4 k4 l0 a1 t202 t203 (decide ((wrap64 (t207 + (t218.size : Int))) ≤ x2_10))) = some r := H
                  have A39 := Aside0.mk A390
                  clear A390
                  have H' := Aside0.mk H
                  clear H
                  obtain ⟨Ao40, co40, eo40⟩ := Kd.R_slice HO_7.out
                  subst eo40
                  have p217 : 0 ≤ ((t206.length : Int) : Int) := of_decide_eq_true as_
                  have q217 : (t206.length : Int) < (t202.length : Int) := of_decide_eq_true as_
                  obtain ⟨ad217, e217, hx217_0, hx217_1, hx217_2, hx217_3⟩ := at_T24 (Kd.R_reads' HO_7.out).2.2 (t206.length : Int) p217 q217
                  cases e217
                  (try simp only [Go.IntWalk.toNatUp] at hx217_0)
                  (try simp only [Go.IntWalk.toNatUp] at hx217_1)
                  (try simp only [Go.IntWalk.toNatUp] at hx217_2)
                  (try simp only [Go.IntWalk.toNatUp] at hx217_3)
                  replace p217 := eq_true p217
                  replace q217 := eq_true q217
                  go_wp2_with (first | (go_at_call 22; (with_reducible refine (record_Bytes.calls k4 ((rd_T24 t202 (t206.length : Int)).f0) ((rd_T24 t202 (t206.length : Int)).f1) ((rd_T24 t202 (t206.length : Int)).f2) ((rd_T24 t202 (t206.length : Int)).f3) t218 _ A39.out).mono ?_); rintro e w41 ⟨rfl, hb⟩; replace HO_7 := Aside0.mk (Kd.R_below (rw_ HO_7.out) hb); replace HO_9 := Aside0.mk (Kd.R_below (rw_ HO_9.out) hb); replace HB := bs_ HB hb; (try clear hb); (try clear hb2); (try clear hk); (try clear hi)))
                  go_meet
                  case rel => exact ⟨_, (decide ((wrap64 (t207 + (t218.size : Int))) ≤ x2_10)), es_, H', ⟨by have := HJ7.out; have := HJ10.out; have := HJ15.out; have := HK4.out; first | omega | exact Nat.le_refl _⟩, ⟨by (with_reducible repeat (first | apply Kd.R_alloc | apply Kd.R_drewN | apply Kd.R_drew)); exact Kd.R_mono HO_7.out (fun _ hk => trivial)⟩, ⟨hb_ HB⟩⟩
                 ·rw [if_neg c38] at H
                  exact absurd H (by simp)
                ·rw [if_neg c37] at H
                 have c37b0 : decide ((t206.length : Int) < (t202.length : Int)) = false := decide_eq_false c37
                 have c37b1 : decide (t206.length < t202.length) = false := decide_eq_false (fun h => c37 (Int.ofNat_lt.mpr h))
                 clear c37
                 have H' := Aside0.mk H
                 clear H
                 obtain ⟨Ao42, co42, eo42⟩ := Kd.R_slice HO_7.out
                 subst eo42
                 go_wp2
                 go_meet
                 case rel => exact ⟨_, (false), es_, H', ⟨by have := HJ7.out; have := HJ10.out; have := HJ15.out; have := HK4.out; first | omega | exact Nat.le_refl _⟩, ⟨by (with_reducible repeat (first | apply Kd.R_alloc | apply Kd.R_drewN | apply Kd.R_drew)); exact Kd.R_mono HO_7.out (fun _ hk => trivial)⟩, ⟨hb_ HB⟩⟩
               ·rw [if_neg c36] at H
                have c36b0 : (x11_4 == t207) = false := beq_eq_false_iff_ne.mpr c36
                have c36b1 : (x11_4 != t207) = true := bne_iff_ne.mpr c36
                (first | rw [c36b0] | (simp only [i64_w, i32_w]; rw [c36b0]) | skip)
                have H' := Aside0.mk H
                clear H
                go_wp2
                go_meet
                case rel => exact ⟨_, (true), es_, H', ⟨by have := HJ7.out; have := HJ10.out; have := HJ15.out; have := HK4.out; first | omega | exact Nat.le_refl _⟩, ⟨by (with_reducible repeat (first | apply Kd.R_alloc | apply Kd.R_drewN | apply Kd.R_drew)); exact Kd.R_mono HO_7.out (fun _ hk => trivial)⟩, ⟨hb_ HB⟩⟩
              case rest =>
               clear HC34
               try clear c4
               try clear c4b0
               try clear c4b1
               try clear c13
               try clear c13b0
               try clear c13b1
               try clear c14
               try clear c14b0
               try clear c14b1
               try clear c28
               try clear c29
               try clear c29b0
               obtain ⟨kq, x100_33, rfl, HA, HJ33, HO_7, HB⟩ := hcut
               cases kq with
               | zero => exact absurd HA.out (by simp [calamuslaw33_RecordTorn.j4])
               | succ kj33 =>
                have H := HA.out
                clear HA
                simp only [calamuslaw33_RecordTorn.j4] at H
                by_cases c43 : x100_33 = true
                ·subst c43
                 have H1 : (some false) = some r := by rw [if_pos rfl] at H; exact H
                 clear H
                 have H := H1
                 clear H1
                 exact nf_ H hr_
                ·replace c43 := Bool.eq_false_iff.mpr c43
                 subst c43
                 have H1 : ((calamuslaw33_chain.f kj33 l0 (wrap64 ((Int.tmod a1 5) + 1))).bind fun bt219 => (if t203.size + bt219.2.size ≤ 9223372036854775807 then ((record_Scan.f kj33 (t203 ++ bt219.2) a1).bind fun bt223 => (if (wrap64 ((Int.tmod a1 5) + 1)) = a1 then ((calamuslaw33_lives.f kj33).bind fun t227 => (some t227)) else ((calamuslaw33_same.f kj33 bt223.1 t202).bind fun t228 => (if t228 = true then ((calamuslaw33_lives.f kj33).bind fun t229 => (some t229)) else (some false))))) else (none))) = some r := by rw [if_neg (show ¬ (false = true) by decide)] at H; exact H
                 clear H
                 have H := H1
                 clear H1
                 replace H := Option.bind_eq_some_iff.mp H
                 obtain ⟨⟨t219, t220⟩, A440, H⟩ := H
                 replace H : (if t203.size + t220.size ≤ 9223372036854775807 then ((record_Scan.f kj33 (t203 ++ t220) a1).bind fun bt223 => (if (wrap64 ((Int.tmod a1 5) + 1)) = a1 then ((calamuslaw33_lives.f kj33).bind fun t227 => (some t227)) else ((calamuslaw33_same.f kj33 bt223.1 t202).bind fun t228 => (if t228 = true then ((calamuslaw33_lives.f kj33).bind fun t229 => (some t229)) else (some false))))) else (none)) = some r := H
                 have A44 := Aside0.mk A440
                 clear A440
                 by_cases c45 : t203.size + t220.size ≤ 9223372036854775807
                 ·rw [if_pos c45] at H
                  have c45b0 := eq_true c45
                  try (have c45b0x := c45b0; simp only [ByteArray.size_extract, Nat.min_self] at c45b0x)
                  have c45b1 : decide (t203.size + t220.size ≤ 9223372036854775807) = true := decide_eq_true c45
                  try have c45b2 : (9223372036854775807 < t203.size + t220.size) = False := eq_false (Nat.not_lt.2 c45)
                  replace H := Option.bind_eq_some_iff.mp H
                  obtain ⟨⟨t223, t224⟩, A460, H⟩ := H
                  replace H : (if (wrap64 ((Int.tmod a1 5) + 1)) = a1 then ((calamuslaw33_lives.f kj33).bind fun t227 => (some t227)) else ((calamuslaw33_same.f kj33 t223 t202).bind fun t228 => (if t228 = true then ((calamuslaw33_lives.f kj33).bind fun t229 => (some t229)) else (some false)))) = some r := H
                  have A46 := Aside0.mk A460
                  clear A460
                  by_cases c47 : (wrap64 ((Int.tmod a1 5) + 1)) = a1
                  ·rw [if_pos c47] at H
                   have c47b0 : ((wrap64 ((Int.tmod a1 5) + 1)) == a1) = true := beq_iff_eq.mpr c47
                   have c47b1 : ((wrap64 ((Int.tmod a1 5) + 1)) != a1) = false := bne_eq_false_iff_eq.mpr c47
                   clear c47
                   replace H := Option.bind_eq_some_iff.mp H
                   obtain ⟨t227, A480, H⟩ := H
                   replace H : (some t227) = some r := H
                   have A48 := Aside0.mk A480
                   clear A480
                   obtain rfl := Option.some.inj H
                   go_wp2_with (first | ((with_reducible refine gate_callee (f := 30) rfl ?_); refine ge_ (some 106) rfl rfl Try.func30 (by kernel_rfl) rfl #[.slice A0 l0.length c0, .int .i64 (wrap64 ((Int.tmod a1 5) + 1))] rfl (h := ?_); (with_reducible refine (calamuslaw33_chain.calls kj33 _ _ l0 (wrap64 ((Int.tmod a1 5) + 1)) t219 t220 _ ?side1 ?side2 A44.out).mono ?_); (case side1 => exact cw_ (Kd.C_below HR0.out HB.out)); (case side2 => exact HC0.out); rintro e w49 ⟨v221, rfl, ho0, hb⟩; refine ⟨_, rfl, ?_⟩; have HO222 := Aside0.mk (Kd.R_lower (Kd.R_new' ho0 (Kd.R_lt (rw_ HO_7.out))) (below_size (hb_ HB))); replace HO_7 := Aside0.mk (Kd.R_elder' (rw_ HO_7.out) (Kd.R_base ho0) hb); replace HB := bs_ HB hb; (try clear hb); (try clear hb2); (try clear hk); (try clear hi); (try clear ho0)) | ((with_reducible refine gate_callee (f := 26) rfl ?_); refine ge_ (some 114) rfl rfl Try.func26 (by kernel_rfl) rfl #[.string (t203 ++ t220), .int .i64 a1] rfl (h := ?_); (with_reducible refine (record_Scan.calls kj33 (t203 ++ t220) a1 t223 t224 _ A46.out).mono ?_); rintro e w50 ⟨v225, rfl, ho0, hb⟩; refine ⟨_, rfl, ?_⟩; have HO226 := Aside0.mk (Kd.R_lower (Kd.R_new' (Kd.R_new' ho0 (Kd.R_lt (rw_ HO_7.out))) (Kd.R_lt (rw_ HO222.out))) (below_size (hb_ HB))); replace HO_7 := Aside0.mk (Kd.R_elder' (rw_ HO_7.out) (Kd.R_base ho0) hb); replace HO222 := Aside0.mk (Kd.R_elder' (rw_ HO222.out) (Kd.R_base ho0) hb); replace HB := bs_ HB hb; (try clear hb); (try clear hb2); (try clear hk); (try clear hi); (try clear ho0)) | (go_at_call 17; (with_reducible refine (calamuslaw33_lives.calls kj33  t227 _ A48.out).mono ?_); rintro e w51 ⟨rfl, hb⟩; replace HO_7 := Aside0.mk (Kd.R_below (rw_ HO_7.out) hb); replace HO222 := Aside0.mk (Kd.R_below (rw_ HO222.out) hb); replace HO226 := Aside0.mk (Kd.R_below (rw_ HO226.out) hb); replace HB := bs_ HB hb; (try clear hb); (try clear hb2); (try clear hk); (try clear hi)))
                   go_ret
                   exact ⟨er_, hb_ HB⟩
                  ·rw [if_neg c47] at H
                   have c47b0 : ((wrap64 ((Int.tmod a1 5) + 1)) == a1) = false := beq_eq_false_iff_ne.mpr c47
                   have c47b1 : ((wrap64 ((Int.tmod a1 5) + 1)) != a1) = true := bne_iff_ne.mpr c47
                   replace H := Option.bind_eq_some_iff.mp H
                   obtain ⟨t228, A520, H⟩ := H
                   replace H : (if t228 = true then ((calamuslaw33_lives.f kj33).bind fun t229 => (some t229)) else (some false)) = some r := H
                   have A52 := Aside0.mk A520
                   clear A520
                   by_cases c53 : t228 = true
                   ·subst c53
                    have H1 : ((calamuslaw33_lives.f kj33).bind fun t229 => (some t229)) = some r := by rw [if_pos rfl] at H; exact H
                    clear H
                    have H := H1
                    clear H1
                    replace H := Option.bind_eq_some_iff.mp H
                    obtain ⟨t229, A540, H⟩ := H
                    replace H : (some t229) = some r := H
                    have A54 := Aside0.mk A540
                    clear A540
                    obtain rfl := Option.some.inj H
                    go_wp2_with (first | ((with_reducible refine gate_callee (f := 30) rfl ?_); refine ge_ (some 106) rfl rfl Try.func30 (by kernel_rfl) rfl #[.slice A0 l0.length c0, .int .i64 (wrap64 ((Int.tmod a1 5) + 1))] rfl (h := ?_); (with_reducible refine (calamuslaw33_chain.calls kj33 _ _ l0 (wrap64 ((Int.tmod a1 5) + 1)) t219 t220 _ ?side1 ?side2 A44.out).mono ?_); (case side1 => exact cw_ (Kd.C_below HR0.out HB.out)); (case side2 => exact HC0.out); rintro e w55 ⟨v221, rfl, ho0, hb⟩; refine ⟨_, rfl, ?_⟩; have HO222 := Aside0.mk (Kd.R_lower (Kd.R_new' ho0 (Kd.R_lt (rw_ HO_7.out))) (below_size (hb_ HB))); replace HO_7 := Aside0.mk (Kd.R_elder' (rw_ HO_7.out) (Kd.R_base ho0) hb); replace HB := bs_ HB hb; (try clear hb); (try clear hb2); (try clear hk); (try clear hi); (try clear ho0)) | ((with_reducible refine gate_callee (f := 26) rfl ?_); refine ge_ (some 114) rfl rfl Try.func26 (by kernel_rfl) rfl #[.string (t203 ++ t220), .int .i64 a1] rfl (h := ?_); (with_reducible refine (record_Scan.calls kj33 (t203 ++ t220) a1 t223 t224 _ A46.out).mono ?_); rintro e w56 ⟨v225, rfl, ho0, hb⟩; refine ⟨_, rfl, ?_⟩; have HO226 := Aside0.mk (Kd.R_lower (Kd.R_new' (Kd.R_new' ho0 (Kd.R_lt (rw_ HO_7.out))) (Kd.R_lt (rw_ HO222.out))) (below_size (hb_ HB))); replace HO_7 := Aside0.mk (Kd.R_elder' (rw_ HO_7.out) (Kd.R_base ho0) hb); replace HO222 := Aside0.mk (Kd.R_elder' (rw_ HO222.out) (Kd.R_base ho0) hb); replace HB := bs_ HB hb; (try clear hb); (try clear hb2); (try clear hk); (try clear hi); (try clear ho0); obtain ⟨Ao57, co57, eo57⟩ := Kd.R_slice HO226.out; subst eo57; obtain ⟨Ao58, co58, eo58⟩ := Kd.R_slice HO_7.out; subst eo58) | (go_at_call 28; (with_reducible refine (calamuslaw33_same.calls kj33 _ _ t223 _ _ t202 true _ ?side1 ?side2 ?side3 ?side4 A52.out).mono ?_); (case side1 => repeat (first | exact (Kd.R_reads' HO226.out).2.2 | (with_reducible refine Kd.C_alloc ?_ _) | (with_reducible refine Kd.C_drewN ?_ _) | (with_reducible refine Kd.C_drew ?_))); (case side2 => exact (Kd.R_reads' HO226.out).2.1); (case side3 => repeat (first | exact (Kd.R_reads' HO_7.out).2.2 | (with_reducible refine Kd.C_alloc ?_ _) | (with_reducible refine Kd.C_drewN ?_ _) | (with_reducible refine Kd.C_drew ?_))); (case side4 => exact (Kd.R_reads' HO_7.out).2.1); rintro e w' ⟨rfl, ⟨nd, rfl⟩⟩) | (go_at_call 17; (with_reducible refine (calamuslaw33_lives.calls kj33  t229 _ A54.out).mono ?_); rintro e w59 ⟨rfl, hb⟩; replace HO_7 := Aside0.mk (Kd.R_below (rw_ HO_7.out) hb); replace HO222 := Aside0.mk (Kd.R_below (rw_ HO222.out) hb); replace HO226 := Aside0.mk (Kd.R_below (rw_ HO226.out) hb); replace HB := bs_ HB hb; (try clear hb); (try clear hb2); (try clear hk); (try clear hi)))
                    go_ret
                    exact ⟨er_, hb_ HB⟩
                   ·replace c53 := Bool.eq_false_iff.mpr c53
                    subst c53
                    have H1 : (some false) = some r := by rw [if_neg (show ¬ (false = true) by decide)] at H; exact H
                    clear H
                    have H := H1
                    clear H1
                    exact nf_ H hr_
                 ·rw [if_neg c45] at H
                  exact absurd H (by simp)
       ·rw [if_neg c14] at H
        exact absurd H (by simp)
      ·rw [if_neg c13] at H
       exact absurd H (by simp)

end Go.Proofs.Ytealbonfaebikaa.PRecordTorn
