/- Of the law calamus/calamuslaw09.BatchPlaces: each function as a plain Lean function, with a proof that the call comes to it; the row. By wip/tpl/own_print.py. Conditions: none but the row's own. -/
import Derived.Test.YtkiokimpblimcaaOBatchPlacesx0
import Derived.Test.YtkiokimpblimcaaOBatchPlacesx1
import Derived.Test.YtkiokimpblimcaaOBatchPlacesx3
namespace Go.Proofs.Ytkiokimpblimcaa.PBatchPlaces
open Go.RowKit Go.Proofs.YtkiokimpblimcaaW.PrintWords Go.Proofs.YtkiokimpblimcaaW.PrintLast Go.Proofs.YtkiokimpblimcaaW.PrintMore
attribute [local go_sem] max2_int min2_int max_two min_two max_three min_three max_four min_four   -- for this text's walks alone
set_option linter.unusedVariables false
set_option linter.unusedSimpArgs false

attribute [local go_sem high] eqA24
/-! ### batch_Do: function 31, by hand (batch.Do.lean) -/
section
open Go.Shelf
def shelf_bw_ren : Go.Shelf.Ren := ⟨fun | 166 => 74 | 240 => 95 | 276 => 100 | n => n, fun | 0 => 0 | 3 => 3 | 4 => 4 | 9 => 9 | 20 => 20 | 37 => 90 | 70 => 89 | 72 => 92 | 75 => 94 | 164 => 125 | 5 => 5 | 80 => 98 | n => n, fun | n => n⟩
theorem bw_lays : Go.Proofs.Lays.n166 Try.prog shelf_bw_ren := {
 mixed := by kernel_rfl
 f166 := Try.func74.trans (congrArg some (by kernel_rfl))
 f240 := Try.func95.trans (congrArg some (by kernel_rfl))
 f276 := Try.func100.trans (congrArg some (by kernel_rfl))
 t0 := Try.underlying0
 a0 := Try.isAgg0
 z0 := Try.sizeOf0
 v0 := Try.zeroValue0
 t3 := Try.underlying3
 a3 := Try.isAgg3
 z3 := Try.sizeOf3
 v3 := Try.zeroValue3
 t4 := Try.underlying4
 a4 := Try.isAgg4
 z4 := Try.sizeOf4
 v4 := Try.zeroValue4
 t9 := Try.underlying9
 a9 := Try.isAgg9
 z9 := Try.sizeOf9
 v9 := Try.zeroValue9
 t20 := Try.underlying20
 a20 := Try.isAgg20
 z20 := Try.sizeOf20
 v20 := Try.zeroValue20
 t37 := Try.underlying90
 a37 := Try.isAgg90
 z37 := Try.sizeOf90
 v37 := Try.zeroValue90
 t70 := Try.underlying89
 a70 := Try.isAgg89
 z70 := Try.sizeOf89
 v70 := Try.zeroValue89
 t72 := Try.underlying92
 a72 := Try.isAgg92
 z72 := Try.sizeOf92
 v72 := Try.zeroValue92
 t75 := Try.underlying94
 a75 := Try.isAgg94
 z75 := Try.sizeOf94
 v75 := Try.zeroValue94
 t164 := Try.underlying125
 a164 := Try.isAgg125
 z164 := Try.sizeOf125
 v164 := Try.zeroValue125 }
theorem bw_extra : Builder.Extra Try.prog shelf_bw_ren := {
 sizeBuilder := by kernel_rfl
 liesBuilder := by kernel_rfl
 t5 := Try.underlying5
 a5 := Try.isAgg5
 z5 := Try.sizeOf5
 v5 := Try.zeroValue5
 infoByte := by kernel_rfl
 cellsByte := by kernel_rfl
 sizeByte := by kernel_rfl
 neB5 := by decide }
end
section
open Go.Shelf
def shelf_lays169_ren : Go.Shelf.Ren := ⟨fun | 169 => 76 | n => n, fun | 70 => 89 | 9 => 9 | 0 => 0 | 72 => 92 | 37 => 90 | 127 => 119 | 3 => 3 | 5 => 5 | n => n, fun | n => n⟩
theorem shelf_lays169 : Go.Proofs.Lays.n169 Try.prog shelf_lays169_ren := {
 mixed := by kernel_rfl
 f169 := Try.func76.trans (congrArg some (by kernel_rfl))
 t0 := Try.underlying0
 a0 := Try.isAgg0
 z0 := Try.sizeOf0
 v0 := Try.zeroValue0
 t3 := Try.underlying3
 a3 := Try.isAgg3
 z3 := Try.sizeOf3
 v3 := Try.zeroValue3
 t9 := Try.underlying9
 a9 := Try.isAgg9
 z9 := Try.sizeOf9
 v9 := Try.zeroValue9
 t37 := Try.underlying90
 a37 := Try.isAgg90
 z37 := Try.sizeOf90
 v37 := Try.zeroValue90
 t70 := Try.underlying89
 a70 := Try.isAgg89
 z70 := Try.sizeOf89
 v70 := Try.zeroValue89
 t72 := Try.underlying92
 a72 := Try.isAgg92
 z72 := Try.sizeOf92
 v72 := Try.zeroValue92
 t127 := Try.underlying119
 a127 := Try.isAgg119
 z127 := Try.sizeOf119
 v127 := Try.zeroValue119 }
theorem shelf_Builder_Extra_169 : Builder.Extra Try.prog shelf_lays169_ren := {
 sizeBuilder := by kernel_rfl
 liesBuilder := by kernel_rfl
 t5 := Try.underlying5
 a5 := Try.isAgg5
 z5 := Try.sizeOf5
 v5 := Try.zeroValue5
 infoByte := by kernel_rfl
 cellsByte := by kernel_rfl
 sizeByte := by kernel_rfl
 neB5 := by decide }
open Go.RowKit in
theorem shelf_Builder_String (B b : Nat) (l : List UInt8) (w : World) (h : Lib.IsBuilder 92 5 B b (Lib.byteCells l) w) (h0 : l ≠ []) :
  Calls Try.prog 76 #[.pointer (some ⟨b, 0, none⟩)] w fun e w' => e = .returned (.string ⟨l.toArray⟩) ∧ Below B w w' := Any.Builder_String shelf_lays169 shelf_Builder_Extra_169 B b l w h h0
open Go.RowKit in
theorem shelf_Builder_String_empty (B b : Nat) (w : World) (h : Lib.IsBuilder 92 5 B b [] w) (hBw : B ≤ w.heap.size) :
  Calls Try.prog 76 #[.pointer (some ⟨b, 0, none⟩)] w fun e w' => e = .returned (.string ⟨#[]⟩) ∧ Below B w w' := Any.Builder_String_empty shelf_lays169 shelf_Builder_Extra_169 B b w h hBw
open Go.RowKit in
theorem shelf_Builder_String_any (B b : Nat) (l : List UInt8) (w : World) (h : Lib.IsBuilder 92 5 B b (Lib.byteCells l) w) (hBw : B ≤ w.heap.size) :
  Calls Try.prog 76 #[.pointer (some ⟨b, 0, none⟩)] w fun e w' => e = .returned (.string ⟨l.toArray⟩) ∧ Below B w w' := Any.Builder_String_any shelf_lays169 shelf_Builder_Extra_169 B b l w h hBw
open Go.RowKit in
theorem shelf_Builder_String_f (B b : Nat) (l : List UInt8) (w : World) (h : Lib.IsBuilderF 92 5 B b (Lib.byteCells l) w) (h0 : l ≠ []) :
  Calls Try.prog 76 #[.pointer (some ⟨b, 0, none⟩)] w fun e w' => e = .returned (.string ⟨l.toArray⟩) ∧ (Lib.IsBuilderF 92 5 B b (Lib.byteCells l) w' ∧ Below B w w') := Any.Builder_String_f shelf_lays169 shelf_Builder_Extra_169 B b l w h h0
open Go.RowKit in
theorem shelf_Builder_String_empty_f (B b : Nat) (w : World) (h : Lib.IsBuilderF 92 5 B b [] w) (hBw : B ≤ w.heap.size) :
  Calls Try.prog 76 #[.pointer (some ⟨b, 0, none⟩)] w fun e w' => e = .returned (.string ⟨#[]⟩) ∧ (Lib.IsBuilderF 92 5 B b [] w' ∧ Below B w w') := Any.Builder_String_empty_f shelf_lays169 shelf_Builder_Extra_169 B b w h hBw
open Go.RowKit in
theorem shelf_Builder_String_any_f (B b : Nat) (l : List UInt8) (w : World) (h : Lib.IsBuilderF 92 5 B b (Lib.byteCells l) w) (hBw : B ≤ w.heap.size) :
  Calls Try.prog 76 #[.pointer (some ⟨b, 0, none⟩)] w fun e w' => e = .returned (.string ⟨l.toArray⟩) ∧ (Lib.IsBuilderF 92 5 B b (Lib.byteCells l) w' ∧ Below B w w') := Any.Builder_String_any_f shelf_lays169 shelf_Builder_Extra_169 B b l w h hBw
open Go.RowKit in
theorem shelf_Builder_String_k (B b : Nat) (l : List UInt8) (w : World) (h : Lib.IsBuilderF 92 5 B b (Lib.byteCells l) w) (h0 : l ≠ []) :
  Calls Try.prog 76 #[.pointer (some ⟨b, 0, none⟩)] w fun e w' => e = .returned (.string ⟨l.toArray⟩) ∧ (Lib.IsBuilderF 92 5 B b (Lib.byteCells l) w' ∧ Below B w w' ∧ Lib.OthersKept 5 (some b) w w') := Any.Builder_String_k shelf_lays169 shelf_Builder_Extra_169 B b l w h h0
open Go.RowKit in
theorem shelf_Builder_String_empty_k (B b : Nat) (w : World) (h : Lib.IsBuilderF 92 5 B b [] w) (hBw : B ≤ w.heap.size) :
  Calls Try.prog 76 #[.pointer (some ⟨b, 0, none⟩)] w fun e w' => e = .returned (.string ⟨#[]⟩) ∧ (Lib.IsBuilderF 92 5 B b [] w' ∧ Below B w w' ∧ Lib.OthersKept 5 (some b) w w') := Any.Builder_String_empty_k shelf_lays169 shelf_Builder_Extra_169 B b w h hBw
open Go.RowKit in
theorem shelf_Builder_String_any_k (B b : Nat) (l : List UInt8) (w : World) (h : Lib.IsBuilderF 92 5 B b (Lib.byteCells l) w) (hBw : B ≤ w.heap.size) :
  Calls Try.prog 76 #[.pointer (some ⟨b, 0, none⟩)] w fun e w' => e = .returned (.string ⟨l.toArray⟩) ∧ (Lib.IsBuilderF 92 5 B b (Lib.byteCells l) w' ∧ Below B w w' ∧ Lib.OthersKept 5 (some b) w w') := Any.Builder_String_any_k shelf_lays169 shelf_Builder_Extra_169 B b l w h hBw
def shelf_lays170_ren : Go.Shelf.Ren := ⟨fun | 170 => 75 | n => n, fun | 70 => 89 | 3 => 3 | 0 => 0 | 72 => 92 | 37 => 90 | 5 => 5 | n => n, fun | n => n⟩
theorem shelf_lays170 : Go.Proofs.Lays.n170 Try.prog shelf_lays170_ren := {
 mixed := by kernel_rfl
 f170 := Try.func75.trans (congrArg some (by kernel_rfl))
 t0 := Try.underlying0
 a0 := Try.isAgg0
 z0 := Try.sizeOf0
 v0 := Try.zeroValue0
 t3 := Try.underlying3
 a3 := Try.isAgg3
 z3 := Try.sizeOf3
 v3 := Try.zeroValue3
 t37 := Try.underlying90
 a37 := Try.isAgg90
 z37 := Try.sizeOf90
 v37 := Try.zeroValue90
 t70 := Try.underlying89
 a70 := Try.isAgg89
 z70 := Try.sizeOf89
 v70 := Try.zeroValue89
 t72 := Try.underlying92
 a72 := Try.isAgg92
 z72 := Try.sizeOf92
 v72 := Try.zeroValue92 }
open Go.RowKit in
theorem shelf_Builder_Len (B b : Nat) (bs : List Value) (w : World) (h : Lib.IsBuilder 92 5 B b bs w) :
  Calls Try.prog 75 #[.pointer (some ⟨b, 0, none⟩)] w fun e w' => e = .returned (.int .i64 bs.length) ∧ w' = w := Any.Builder_Len shelf_lays170 B b bs w h
end
def batch_Do.l0 : Nat → ByteArray → List S24 → Int → Int → ByteArray → Option (ByteArray × Int)
 | 0, _, _, _, _, _ => none
 | k + 1, s, l, i, at_, b => if i < (l.length : Int) then (if 0 ≤ i then (if 0 ≤ at_ then (if at_ ≤ (rd_T24 l i).f0 then (if (rd_T24 l i).f0 ≤ (s.size : Int) then (if b.size + s.size ≤ 70368744177664 ∧ (rd_T24 l i).f2.size ≤ 70368744177664 then batch_Do.l0 k s l (wrap64 (i + 1)) (wrap64 ((rd_T24 l i).f0 + ((rd_T24 l i).f1.size : Int))) (b ++ s.extract at_.toNat ((rd_T24 l i).f0).toNat ++ (rd_T24 l i).f2) else none) else none) else none) else none) else none) else (if 0 ≤ at_ then (if at_ ≤ (s.size : Int) then (if b.size + s.size ≤ 70368744177664 then (if ((b ++ s.extract at_.toNat s.size).size : Int) > 4096 then some (⟨#[]⟩, 8) else some (b ++ s.extract at_.toNat s.size, 0)) else none) else none) else none)
def batch_Do.f (k : Nat) (a0 : ByteArray) (l1 : List S24) : Option (ByteArray × Int) := (batch_Right.f k a0 l1).bind fun t => if t = true then batch_Do.l0 k a0 l1 0 0 ⟨#[]⟩ else some (⟨#[]⟩, 1)
theorem batch_Do.mono_l : ∀ k, (∀ s l i a b, LeO (batch_Do.l0 k s l i a b) (batch_Do.l0 (k + 1) s l i a b))
 | 0 => fun _ _ _ _ _ r h => by simp [batch_Do.l0] at h
 | k + 1 => by
  have ih := batch_Do.mono_l k
  intro s l i a b
  unfold batch_Do.l0
  refine LeO.ite (LeO.ite (LeO.ite (LeO.ite (LeO.ite (LeO.ite (ih _ _ _ _ _) (LeO.none _)) (LeO.none _)) (LeO.none _)) (LeO.none _)) (LeO.none _)) (LeO.refl _)
theorem batch_Do.mono : ∀ a0 a1 k, LeO (batch_Do.f k a0 a1) (batch_Do.f (k + 1) a0 a1) := by
 intro a0 a1 k
 unfold batch_Do.f
 refine LeO.bind (batch_Right.mono _ _ _) (fun _ => LeO.ite (batch_Do.mono_l _ _ _ _ _ _) (LeO.refl _))
/-- A builder that holds these bytes. -/
def bld (B b : Nat) (s : ByteArray) (w : World) : Prop := Lib.IsBuilderF 92 5 B b (Lib.strCells s) w
theorem bld_below {B b : Nat} {s : ByteArray} {w w' : World} (h : bld B b s w) (hb : Below w.heap.size w w') : bld B b s w' := by
 unfold bld Lib.IsBuilderF at h ⊢
 refine h.imp (fun h => ?_) (fun h => ?_) <;>
 ·have hlt := h.lt
  obtain ⟨h1, v, h2, h3, h4⟩ := h
  exact ⟨h1, v, (hb.block b hlt).trans h2, h3.kept (row := none) ⟨hb.os, hb.tape, hb.output, hb.size, fun k hk _ => hb.block k hk⟩ (Classical.em _), h4⟩
/-- Stores into another block, of another type. -/
theorem bld_grown {B b g : Nat} {s : ByteArray} {w w' : World} {cs : Array Value} {t : TypeId} {fr : Nat × Nat} (h : bld B b s w) (hg : w.heap[g]? = some (.cells cs t fr)) (ht : t ≠ 5) (hne : g ≠ b) (hw : w.grownBy w' (some g)) : bld B b s w' := by
 unfold bld Lib.IsBuilderF at h ⊢
 refine h.imp (fun h => ?_) (fun h => ?_) <;>
 ·have hlt := h.lt
  obtain ⟨h1, v, h2, h3, h4⟩ := h
  refine ⟨h1, v, (hw.block b hlt (fun e => hne (by injection e with e; exact e.symm))).trans h2, h3.kept (row := some g) hw (Or.inr fun e => ?_), h4⟩
  obtain ⟨c, fz, hc⟩ := Lib.ownsRowF_kind h3 g e
  rw [hg] at hc
  injection hc with hc
  injection hc with _ hc
  exact ht hc
theorem bld_new {B b : Nat} {w : World} (hB : B ≤ b) (h : w.heap[b]? = some (.cells #[.pointer none, .slice none 0 0] 92 (0, 0))) : bld B b ⟨#[]⟩ w :=
 Lib.IsBuilderF.of (Or.inl ⟨hB, .slice none 0 0, h, ⟨rfl, Or.inl ⟨rfl, rfl⟩⟩, by simp [Value.ownBlock]⟩)
/-- A block of another type, and not the builder's own, stands. -/
theorem kept_blk {b g : Nat} {w w' : World} {cs : Array Value} {t : TypeId} {fr : Nat × Nat} (ho : Lib.OthersKept 5 (some b) w w') (h : w.heap[g]? = some (.cells cs t fr)) (hne : g ≠ b) (ht : t ≠ 5) : w'.heap[g]? = some (.cells cs t fr) :=
 ho g _ h (by simpa using hne) (fun c fz e => ht (by injection e))
theorem bld_write (B b : Nat) (t s : ByteArray) (w : World) (h : bld B b t w) (hlen : t.size + s.size ≤ 140737488355328) (hBw : B ≤ w.heap.size) :
  Calls Try.prog 74 #[.pointer (some ⟨b, 0, none⟩), .string s] w fun e w' => e = .returned (.tuple #[.int .i64 s.size, .nilIface]) ∧ bld B b (t ++ s) w' ∧ Below B w w' ∧ Lib.OthersKept 5 (some b) w w' := by
 refine (Any.Builder_WriteString_k bw_lays bw_extra B b (Lib.strCells t) s w h (by rw [Lib.strCells_length]; exact hlen) hBw).mono ?_
 rintro e w' ⟨rfl, h1, h2, h3⟩
 refine ⟨rfl, Or.inr ?_, h2, h3⟩
 have e : Lib.strCells (t ++ s) = Lib.strCells t ++ Lib.strCells s := by simp [Lib.strCells, ByteArray.data_append]
 rw [e]
 exact h1
theorem bld_text (B b : Nat) (t : ByteArray) (w : World) (h : bld B b t w) (hBw : B ≤ w.heap.size) :
  Calls Try.prog 76 #[.pointer (some ⟨b, 0, none⟩)] w fun e w' => e = .returned (.string t) ∧ bld B b t w' ∧ Below B w w' :=
 (Any.Builder_String_any_k shelf_lays169 shelf_Builder_Extra_169 B b t.data.toList w h hBw).mono fun e w' ⟨h1, h2, h3, _⟩ => ⟨h1, h2, h3⟩
theorem bld_len (B b : Nat) (t : ByteArray) (w : World) (h : bld B b t w) :
  Calls Try.prog 75 #[.pointer (some ⟨b, 0, none⟩)] w fun e w' => e = .returned (.int .i64 (t.size : Int)) ∧ w' = w := by
 refine (Any.Builder_Len_f shelf_lays170 B b (Lib.strCells t) w h).mono ?_
 rintro e w' ⟨rfl, rfl⟩
 rw [Lib.strCells_length]
 exact ⟨rfl, rfl⟩
theorem sz_extract (s : ByteArray) (a b : Nat) : (s.extract a b).size ≤ s.size := by rw [ByteArray.size_extract]; omega
theorem bld_lt {B b : Nat} {s : ByteArray} {w : World} (h : bld B b s w) : b < w.heap.size := h.elim (fun h => h.lt) (fun h => h.lt)
set_option maxHeartbeats 4000000 in
set_option maxRecDepth 100000 in
theorem batch_Do.calls (k : Nat) (a0 : ByteArray) (A1 : Option Addr) (c1 : Nat) (l1 : List S24) (r1 : ByteArray) (r2 : Int) (w : World) (hr1 : Kd.C k24 w A1 l1.length l1) (hc1 : l1.length ≤ c1) (h : batch_Do.f k a0 l1 = some (r1, r2)) :
  Calls Try.prog 31 #[.string a0, .slice A1 l1.length c1] w fun e w' => e = .returned (.tuple #[.string r1, .int .i64 r2]) ∧ Below w.heap.size w w' := by
 have hu := Try.underlying24
 have HR1 := Aside0.mk hr1
 have HC1 := Aside0.mk hc1
 clear hr1 hc1
 have HB := Aside0.mk (Below.refl w.heap.size w)
 unfold batch_Do.f at h
 obtain ⟨t1, X10, H⟩ := Option.bind_eq_some_iff.mp h
 have X1 := Aside0.mk X10
 clear h X10
 cases t1
 case false =>
  obtain ⟨rfl, rfl⟩ : (⟨#[]⟩ : ByteArray) = r1 ∧ (1 : Int) = r2 := by simpa using H
  go_enter Try.func31, Try.ntmps31
  go_wp2_with ((with_reducible refine gate_callee (f := 73) rfl ?_); refine ge_ (some 12) rfl rfl Try.func73 (by kernel_rfl) rfl #[.string a0, .slice A1 l1.length c1] rfl (h := ?_); (with_reducible refine (batch_Right.calls k a0 _ _ l1 _ _ ?side1 ?side2 X1.out).mono ?_); (case side1 => exact cw_ (Kd.C_below HR1.out HB.out)); (case side2 => exact HC1.out); rintro e w2 ⟨rfl, hb⟩; refine ⟨_, rfl, ?_⟩; replace HB := bs_ HB hb; clear hb)
  go_ret2
  exact ⟨er_, hb_ HB⟩
 case true =>
  have H' : Aside0 (batch_Do.l0 k a0 l1 0 0 ⟨#[]⟩ = some (r1, r2)) := ⟨H⟩
  clear H
  go_enter Try.func31, Try.ntmps31
  go_wp2_with (first | ((with_reducible refine gate_callee (f := 73) rfl ?_); refine ge_ (some 12) rfl rfl Try.func73 (by kernel_rfl) rfl #[.string a0, .slice A1 l1.length c1] rfl (h := ?_); (with_reducible refine (batch_Right.calls k a0 _ _ l1 _ _ ?side1 ?side2 X1.out).mono ?_); (case side1 => exact cw_ (Kd.C_below HR1.out HB.out)); (case side2 => exact HC1.out); rintro e w2 ⟨rfl, hb⟩; refine ⟨_, rfl, ?_⟩; replace HB := bs_ HB hb; clear hb) | ((with_reducible refine gate_dst (N := 6) rfl ?_); refine be_ (N := 6) (cs := #[.pointer none, .slice none 0 0]) (t := 92) (h := ?_); intro gb hg w3 hbox hb; have BK := Aside0.mk hbox; have GB := gw_ HB hg; replace HB := bs_ HB hb; clear hb hbox hg))
  have HT := Aside0.mk (bld_new GB.out BK.out)
  clear BK
  go_loopg [7, 16] k (fun kq v7 v16 wr => ∃ (a i : Int) (t : ByteArray), v7 = .int .i64 a ∧ v16 = .int .i64 i ∧ Aside0 (batch_Do.l0 kq a0 l1 i a t = some (r1, r2)) ∧ Aside0 (kq ≤ k) ∧ Aside0 (bld w.heap.size gb t wr) ∧ Aside0 (Below w.heap.size w wr))
  case atStart => exact ⟨0, 0, ⟨#[]⟩, es_, es_, H', ⟨Nat.le_refl _⟩, HT, HB⟩
  case round =>
   clear HB HT H'
   obtain ⟨a, i, t, rfl, rfl, HA, HK, HT, HB⟩ := hrel
   cases gk with
   | zero => exact absurd HA.out (by simp [batch_Do.l0])
   | succ k1 =>
    have H := HA.out
    clear HA
    simp only [batch_Do.l0] at H
    by_cases c1 : i < (l1.length : Int)
    ·rw [if_pos c1] at H
     have c1b : decide (i < (l1.length : Int)) = true := decide_eq_true c1
     by_cases c2 : 0 ≤ i
     ·rw [if_pos c2] at H
      have c2b : decide (0 ≤ i) = true := decide_eq_true c2
      by_cases c3 : 0 ≤ a
      ·rw [if_pos c3] at H
       by_cases c4 : a ≤ (rd_T24 l1 i).f0
       ·rw [if_pos c4] at H
        by_cases c5 : (rd_T24 l1 i).f0 ≤ (a0.size : Int)
        ·rw [if_pos c5] at H
         by_cases c6 : t.size + a0.size ≤ 70368744177664 ∧ (rd_T24 l1 i).f2.size ≤ 70368744177664
         ·rw [if_pos c6] at H
          have HS := Aside0.mk c6
          have H2 := Aside0.mk H
          have HK2 := Aside0.mk (show k1 ≤ k by have := HK.out; omega)
          have c3b := eq_true c3
          have c4b := eq_true c4
          have c5b := eq_true c5
          have HL := Aside0.mk (bld_lt HT.out)
          obtain ⟨ad, ead, hx_0, hx_1, hx_2⟩ := at_T24b HR1 HB i c2 c1
          cases ead
          have p1 := eq_true c2
          have q1 := eq_true c1
          clear H HK c1 c2 c3 c4 c5 c6
          go_wp2_with (first | ((with_reducible refine gate_dst (N := 9) rfl ?_); refine be_ (N := 9) (cs := #[.int .i64 0, .string (⟨#[]⟩ : ByteArray), .string (⟨#[]⟩ : ByteArray)]) (t := 24) (h := ?_); intro gc hg w8 hbox hb; have BK := Aside0.mk (hbox); have GW := gw_ HB hg; have NE := Aside0.mk (show gc ≠ gb from by have h_ := HL.out; rw [hg]; exact Nat.ne_of_gt h_); replace HT := Aside0.mk (bld_below HT.out hb); replace HB := bs_ HB hb; clear hb hbox hg; obtain ⟨hcz_0, hcz_1, hcz_2, hfz_0, hfz_1, hfz_2⟩ := bc3_ BK) | ((with_reducible refine gate_callee (f := 74) rfl ?_); refine ge_ (some 25) rfl rfl Try.func74 (by kernel_rfl) rfl #[.pointer (some ⟨gb, 0, none⟩), .string (a0.extract a.toNat ((rd_T24 l1 i).f0).toNat)] rfl (h := ?_); (with_reducible refine (bld_write w.heap.size gb t (a0.extract a.toNat ((rd_T24 l1 i).f0).toNat) _ ?hT ?hL ?hS).mono ?_); (case hT => exact (bld_grown HT.out BK.out (by decide) NE.out ⟨rfl, rfl, rfl, by simp [World.setCell], fun k hk hk2 => by (repeat rw [Below.heap_setCell _ _ _ _ (fun e => hk2 (by rw [e]))])⟩)); (case hL => have := HS.out; have := sz_extract a0 a.toNat ((rd_T24 l1 i).f0).toNat; omega); (case hS => exact below_size (hb_ HB)); rintro e w6 ⟨rfl, ht, hb, ho⟩; refine ⟨_, rfl, ?_⟩; replace BK := Aside0.mk (kept_blk (cs := #[.int .i64 ((rd_T24 l1 i).f0), .string ((rd_T24 l1 i).f1), .string ((rd_T24 l1 i).f2)]) (t := 24) (fr := (0, 0)) ho (bp_ BK.out) NE.out (by decide)); replace HB := Aside0.mk (Below.trans (hb_ HB) hb); replace HT := Aside0.mk ht; clear ht hb ho hcz_0 hcz_1 hcz_2 hfz_0 hfz_1 hfz_2; obtain ⟨hcz_0, hcz_1, hcz_2, hfz_0, hfz_1, hfz_2⟩ := bc3_ BK) | ((with_reducible refine gate_callee (f := 74) rfl ?_); refine ge_ (some 28) rfl rfl Try.func74 (by kernel_rfl) rfl #[.pointer (some ⟨gb, 0, none⟩), .string ((rd_T24 l1 i).f2)] rfl (h := ?_); (with_reducible refine (bld_write w.heap.size gb (t ++ a0.extract a.toNat ((rd_T24 l1 i).f0).toNat) ((rd_T24 l1 i).f2) _ ?hT ?hL ?hS).mono ?_); (case hT => exact HT.out); (case hL => have := HS.out; have := sz_extract a0 a.toNat ((rd_T24 l1 i).f0).toNat; rw [ByteArray.size_append]; omega); (case hS => exact below_size (hb_ HB)); rintro e w6 ⟨rfl, ht, hb, ho⟩; refine ⟨_, rfl, ?_⟩; replace BK := Aside0.mk (kept_blk (cs := #[.int .i64 ((rd_T24 l1 i).f0), .string ((rd_T24 l1 i).f1), .string ((rd_T24 l1 i).f2)]) (t := 24) (fr := (0, 0)) ho (bp_ BK.out) NE.out (by decide)); replace HB := Aside0.mk (Below.trans (hb_ HB) hb); replace HT := Aside0.mk ht; clear ht hb ho hcz_0 hcz_1 hcz_2 hfz_0 hfz_1 hfz_2; obtain ⟨hcz_0, hcz_1, hcz_2, hfz_0, hfz_1, hfz_2⟩ := bc3_ BK))
          go_roundg k1
          case measure => have := HK2.out; omega
          case rel => exact ⟨_, _, _, es_, es_, H2, HK2, HT, ⟨hb_ HB⟩⟩
         ·rw [if_neg c6] at H
          exact absurd H (by simp)
        ·rw [if_neg c5] at H
         exact absurd H (by simp)
       ·rw [if_neg c4] at H
        exact absurd H (by simp)
      ·rw [if_neg c3] at H
       exact absurd H (by simp)
     ·rw [if_neg c2] at H
      exact absurd H (by simp)
    ·rw [if_neg c1] at H
     have c1b : decide (i < (l1.length : Int)) = false := decide_eq_false c1
     clear c1
     by_cases c3 : 0 ≤ a
     ·rw [if_pos c3] at H
      by_cases c4 : a ≤ (a0.size : Int)
      ·rw [if_pos c4] at H
       by_cases c6 : t.size + a0.size ≤ 70368744177664
       ·rw [if_pos c6] at H
        have HS := Aside0.mk c6
        have c3b := eq_true c3
        have c4b := eq_true c4
        clear c3 c4 c6
        by_cases c7 : ((t ++ a0.extract a.toNat a0.size).size : Int) > 4096
        ·rw [if_pos c7] at H
         obtain ⟨rfl, rfl⟩ : (⟨#[]⟩ : ByteArray) = r1 ∧ (8 : Int) = r2 := by simpa using H
         obtain ⟨z, hz⟩ : ∃ z, t ++ a0.extract a.toNat a0.size = z := ⟨_, rfl⟩
         rw [hz] at c7
         have c7b : decide (4096 < (z.size : Int)) = true := decide_eq_true c7
         have c7c : decide (4096 < z.size) = true := decide_eq_true (by omega)
         clear c7
         go_wp2_with (first | ((with_reducible refine gate_callee (f := 74) rfl ?_); refine ge_ (some 39) rfl rfl Try.func74 (by kernel_rfl) rfl #[.pointer (some ⟨gb, 0, none⟩), .string (a0.extract a.toNat a0.size)] rfl (h := ?_); (with_reducible refine (bld_write w.heap.size gb t (a0.extract a.toNat a0.size) _ ?hT ?hL ?hS).mono ?_); (case hT => exact HT.out); (case hL => have := HS.out; have := sz_extract a0 a.toNat a0.size; omega); (case hS => exact below_size (hb_ HB)); rintro e w6 ⟨rfl, ht, hb, ho⟩; refine ⟨_, rfl, ?_⟩; replace HB := Aside0.mk (Below.trans (hb_ HB) hb); rw [hz] at ht; replace HT := Aside0.mk ht; clear ht hb ho) | ((with_reducible refine gate_callee (f := 75) rfl ?_); refine ge_ (some 40) rfl rfl Try.func75 (by kernel_rfl) rfl #[.pointer (some ⟨gb, 0, none⟩)] rfl (h := ?_); (with_reducible refine (bld_len w.heap.size gb _ _ HT.out).mono ?_); rintro e w7 ⟨rfl, rfl⟩; refine ⟨_, rfl, ?_⟩))
         go_ret2
         exact ⟨er_, hb_ HB⟩
        ·rw [if_neg c7] at H
         obtain ⟨rfl, rfl⟩ : t ++ a0.extract a.toNat a0.size = r1 ∧ (0 : Int) = r2 := by simpa using H
         obtain ⟨z, hz⟩ : ∃ z, t ++ a0.extract a.toNat a0.size = z := ⟨_, rfl⟩
         rw [hz] at c7
         have c7b : decide (4096 < (z.size : Int)) = false := decide_eq_false c7
         have c7c : decide (4096 < z.size) = false := decide_eq_false (by omega)
         clear c7
         go_wp2_with (first | ((with_reducible refine gate_callee (f := 74) rfl ?_); refine ge_ (some 39) rfl rfl Try.func74 (by kernel_rfl) rfl #[.pointer (some ⟨gb, 0, none⟩), .string (a0.extract a.toNat a0.size)] rfl (h := ?_); (with_reducible refine (bld_write w.heap.size gb t (a0.extract a.toNat a0.size) _ ?hT ?hL ?hS).mono ?_); (case hT => exact HT.out); (case hL => have := HS.out; have := sz_extract a0 a.toNat a0.size; omega); (case hS => exact below_size (hb_ HB)); rintro e w6 ⟨rfl, ht, hb, ho⟩; refine ⟨_, rfl, ?_⟩; replace HB := Aside0.mk (Below.trans (hb_ HB) hb); rw [hz] at ht; replace HT := Aside0.mk ht; clear ht hb ho) | ((with_reducible refine gate_callee (f := 75) rfl ?_); refine ge_ (some 40) rfl rfl Try.func75 (by kernel_rfl) rfl #[.pointer (some ⟨gb, 0, none⟩)] rfl (h := ?_); (with_reducible refine (bld_len w.heap.size gb _ _ HT.out).mono ?_); rintro e w7 ⟨rfl, rfl⟩; refine ⟨_, rfl, ?_⟩) | ((with_reducible refine gate_callee (f := 76) rfl ?_); refine ge_ (some 42) rfl rfl Try.func76 (by kernel_rfl) rfl #[.pointer (some ⟨gb, 0, none⟩)] rfl (h := ?_); (with_reducible refine (bld_text w.heap.size gb _ _ HT.out (below_size (hb_ HB))).mono ?_); rintro e w8 ⟨rfl, ht, hb⟩; refine ⟨_, rfl, ?_⟩; replace HB := Aside0.mk (Below.trans (hb_ HB) hb); clear ht hb))
         go_ret2
         exact ⟨er_, hb_ HB⟩
       ·rw [if_neg c6] at H
        exact absurd H (by simp)
      ·rw [if_neg c4] at H
       exact absurd H (by simp)
     ·rw [if_neg c3] at H
      exact absurd H (by simp)

/-! ### calamusref09_Same: function 71 -/
def calamusref09_Same.l0 : Nat → List (S24) → List (S24) → Int → Option (Bool)
 | 0, _, _, _ => none
 | k + 1, x0, x1, x5 => if x5 < (x0.length : Int) then (if 0 ≤ x5 then (if x5 < (x1.length : Int) then (if (!(((rd_T24 x0 x5).f0) == ((rd_T24 x1 x5).f0)) || (!((((rd_T24 x0 x5).f1).toList) == (((rd_T24 x1 x5).f1).toList)) || (!((((rd_T24 x0 x5).f2).toList) == (((rd_T24 x1 x5).f2).toList))))) = true then (some false) else (calamusref09_Same.l0 k x0 x1 (wrap64 (x5 + 1)))) else (none)) else (none)) else (some true)
def calamusref09_Same.f (k : Nat) (l0 : List (S24)) (l1 : List (S24)) : Option (Bool) := if (l0.length : Int) = (l1.length : Int) then (calamusref09_Same.l0 k l0 l1 0) else (some false)
theorem calamusref09_Same.mono_l : ∀ k, (∀ y0 y1 y2, LeO (calamusref09_Same.l0 k y0 y1 y2) (calamusref09_Same.l0 (k + 1) y0 y1 y2))
 | 0 => fun _ _ _ r h => by simp [calamusref09_Same.l0] at h
 | k + 1 => by
  have ih0 := calamusref09_Same.mono_l k
  ·intro y0 y1 y2
   unfold calamusref09_Same.l0
   repeat' first
   | (with_reducible exact ih0 _ _ _)
   | (with_reducible exact LeO.refl _)
   | (with_reducible exact LeO.none _)
   | (with_reducible refine LeO.ite ?_ ?_)
   | (with_reducible refine LeO.bind ?_ (fun _ => ?_))
   | exact ih0 _ _ _
   | exact LeO.none _
   | refine LeO.ite ?_ ?_
   | refine LeO.bind ?_ (fun _ => ?_)
theorem calamusref09_Same.mono : ∀ a0 a1 k, LeO (calamusref09_Same.f k a0 a1) (calamusref09_Same.f (k + 1) a0 a1) := by
 intro a0 a1 k
 have ih0 := calamusref09_Same.mono_l k
 unfold calamusref09_Same.f
 repeat' first
   | (with_reducible exact ih0 _ _ _)
   | (with_reducible exact LeO.refl _)
   | (with_reducible exact LeO.none _)
   | (with_reducible refine LeO.ite ?_ ?_)
   | (with_reducible refine LeO.bind ?_ (fun _ => ?_))
   | exact ih0 _ _ _
   | exact LeO.none _
   | refine LeO.ite ?_ ?_
   | refine LeO.bind ?_ (fun _ => ?_)
set_option maxHeartbeats 8000000 in
set_option maxRecDepth 100000 in
theorem calamusref09_Same.calls (k : Nat) (A0 : Option Addr) (c0 : Nat) (l0 : List (S24)) (A1 : Option Addr) (c1 : Nat) (l1 : List (S24)) (r : Bool) (w : World) (hr0 : Kd.C k24 w A0 l0.length l0) (hc0 : l0.length ≤ c0) (hr1 : Kd.C k24 w A1 l1.length l1) (hc1 : l1.length ≤ c1) (h : calamusref09_Same.f k l0 l1 = some r) :
  Calls Try.prog 71 #[.slice A0 l0.length c0, .slice A1 l1.length c1] w fun e w' => e = .returned (.bool r) ∧ Drawn0 w w' := by
 have hu24 := Try.underlying24
 have HR0 := Aside0.mk hr0
 have HC0 := Aside0.mk hc0
 clear hr0 hc0
 have HR1 := Aside0.mk hr1
 have HC1 := Aside0.mk hc1
 clear hr1 hc1
 have H : (if (l0.length : Int) = (l1.length : Int) then (calamusref09_Same.l0 k l0 l1 0) else (some false)) = some r := h
 clear h
 by_cases c3 : (l0.length : Int) = (l1.length : Int)
 ·rw [if_pos c3] at H
  have c3b0 : ((l0.length : Int) == (l1.length : Int)) = true := beq_iff_eq.mpr c3
  have c3b1 : ((l0.length : Int) != (l1.length : Int)) = false := bne_eq_false_iff_eq.mpr c3
  have c3b2 : (l0.length == l1.length) = true := by first | simpa using c3 | (simp at c3 ⊢; omega)
  clear c3
  have H' := Aside0.mk H
  clear H
  go_enter Try.func71, Try.ntmps71
  go_wp2
  repeat (go_quiet (fail); try go_wp2)
  go_loopg [5] k (fun kq v5 w' => ∃ (x5_1 : Int), v5 = .int .i64 x5_1 ∧ Aside0 (calamusref09_Same.l0 kq l0 l1 x5_1 = some r) ∧ Aside0 (kq ≤ k) ∧ Drawn0 w w')
  case atStart => exact ⟨(0), es_, H', ⟨Nat.le_refl _⟩, by repeat (first | exact Drawn0.refl _ | apply Drawn0.step)⟩
  case round =>
   clear H'
   try clear c3
   try clear c3b0
   try clear c3b1
   try clear c3b2
   obtain ⟨x5_1, rfl, HA, HK1, ⟨m1, rfl⟩⟩ := hrel
   cases gk with
   | zero => exact absurd HA.out (by simp [calamusref09_Same.l0])
   | succ k1 =>
    have H := HA.out
    clear HA
    simp only [calamusref09_Same.l0] at H
    by_cases c4 : x5_1 < (l0.length : Int)
    ·rw [if_pos c4] at H
     have c4b0 : decide (x5_1 < (l0.length : Int)) = true := decide_eq_true c4
     clear c4
     by_cases c5 : 0 ≤ x5_1
     ·rw [if_pos c5] at H
      have c5b0 : decide (0 ≤ x5_1) = true := decide_eq_true c5
      clear c5
      by_cases c6 : x5_1 < (l1.length : Int)
      ·rw [if_pos c6] at H
       have c6b0 : decide (x5_1 < (l1.length : Int)) = true := decide_eq_true c6
       clear c6
       by_cases c7 : (!(((rd_T24 l0 x5_1).f0) == ((rd_T24 l1 x5_1).f0)) || (!((((rd_T24 l0 x5_1).f1).toList) == (((rd_T24 l1 x5_1).f1).toList)) || (!((((rd_T24 l0 x5_1).f2).toList) == (((rd_T24 l1 x5_1).f2).toList))))) = true
       ·rw [if_pos c7] at H
        have c7b0 : (!(((rd_T24 l0 x5_1).f0) == ((rd_T24 l1 x5_1).f0)) || (!((((rd_T24 l0 x5_1).f1).toList) == (((rd_T24 l1 x5_1).f1).toList)) || (!((((rd_T24 l0 x5_1).f2).toList) == (((rd_T24 l1 x5_1).f2).toList))))) = true := c7
        clear c7
        obtain rfl := Option.some.inj H
        have p130 : 0 ≤ (x5_1 : Int) := of_decide_eq_true as_
        have q130 : x5_1 < (l0.length : Int) := of_decide_eq_true as_
        obtain ⟨ad130, e130, hx130_0, hx130_1, hx130_2⟩ := at_T24 HR0.out x5_1 p130 q130
        cases e130
        replace p130 := eq_true p130
        replace q130 := eq_true q130
        have p131 : 0 ≤ (x5_1 : Int) := of_decide_eq_true as_
        have q131 : x5_1 < (l1.length : Int) := of_decide_eq_true as_
        obtain ⟨ad131, e131, hx131_0, hx131_1, hx131_2⟩ := at_T24 HR1.out x5_1 p131 q131
        cases e131
        replace p131 := eq_true p131
        replace q131 := eq_true q131
        go_wp2
        repeat (go_quiet (fail); try go_wp2)
        go_ret
        exact ⟨by first | rfl | (simp; done) | (simp [*]; done), by repeat (first | exact Drawn0.refl _ | apply Drawn0.step)⟩
       ·rw [if_neg c7] at H
        have c7b0 : (!(((rd_T24 l0 x5_1).f0) == ((rd_T24 l1 x5_1).f0)) || (!((((rd_T24 l0 x5_1).f1).toList) == (((rd_T24 l1 x5_1).f1).toList)) || (!((((rd_T24 l0 x5_1).f2).toList) == (((rd_T24 l1 x5_1).f2).toList))))) = false := by simpa using c7
        clear c7
        have H' := Aside0.mk H
        clear H
        have p130 : 0 ≤ (x5_1 : Int) := of_decide_eq_true as_
        have q130 : x5_1 < (l0.length : Int) := of_decide_eq_true as_
        obtain ⟨ad130, e130, hx130_0, hx130_1, hx130_2⟩ := at_T24 HR0.out x5_1 p130 q130
        cases e130
        replace p130 := eq_true p130
        replace q130 := eq_true q130
        have p131 : 0 ≤ (x5_1 : Int) := of_decide_eq_true as_
        have q131 : x5_1 < (l1.length : Int) := of_decide_eq_true as_
        obtain ⟨ad131, e131, hx131_0, hx131_1, hx131_2⟩ := at_T24 HR1.out x5_1 p131 q131
        cases e131
        replace p131 := eq_true p131
        replace q131 := eq_true q131
        go_wp2
        repeat (go_quiet (fail); try go_wp2)
        go_roundg k1
        case measure => have := HK1.out; omega
        case rel => exact ⟨(wrap64 (x5_1 + 1)), es_, H', ⟨by have := HK1.out; omega⟩, by repeat (first | exact Drawn0.refl _ | apply Drawn0.step)⟩
      ·rw [if_neg c6] at H
       exact absurd H (by simp)
     ·rw [if_neg c5] at H
      exact absurd H (by simp)
    ·rw [if_neg c4] at H
     have c4b0 : decide (x5_1 < (l0.length : Int)) = false := decide_eq_false c4
     clear c4
     obtain rfl := Option.some.inj H
     go_wp2
     repeat (go_quiet (fail); try go_wp2)
     go_ret
     exact ⟨by first | rfl | (simp; done) | (simp [*]; done), by repeat (first | exact Drawn0.refl _ | apply Drawn0.step)⟩
 ·rw [if_neg c3] at H
  have c3b0 : ((l0.length : Int) == (l1.length : Int)) = false := beq_eq_false_iff_ne.mpr c3
  have c3b1 : ((l0.length : Int) != (l1.length : Int)) = true := bne_iff_ne.mpr c3
  have c3b2 : (l0.length == l1.length) = false := by first | simpa using c3 | (simp at c3 ⊢; omega)
  obtain rfl := Option.some.inj H
  go_enter Try.func71, Try.ntmps71
  go_wp2
  repeat (go_quiet (fail); try go_wp2)
  go_ret
  exact ⟨by first | rfl | (simp; done) | (simp [*]; done), by repeat (first | exact Drawn0.refl _ | apply Drawn0.step)⟩

/-! ### change_Turn: function 25 -/
def change_Turn.f (a0_0 : Int) (a0_1 : ByteArray) (a0_2 : ByteArray) : Option (Int × ByteArray × ByteArray) := some (a0_0, a0_2, a0_1)
set_option maxHeartbeats 8000000 in
set_option maxRecDepth 100000 in
theorem change_Turn.calls (a0_0 : Int) (a0_1 : ByteArray) (a0_2 : ByteArray) (r1 : Int) (r2 : ByteArray) (r3 : ByteArray) (w : World) (h : change_Turn.f a0_0 a0_1 a0_2 = some (r1, r2, r3)) :
  Calls Try.prog 25 #[.agg #[.int .i64 a0_0, .string a0_1, .string a0_2]] w fun e w' => e = .returned (.agg #[.int .i64 r1, .string r2, .string r3]) ∧ Below w.heap.size w w' := by
 have hu24 := Try.underlying24
 have HB := Aside0.mk (Below.refl w.heap.size w)
 have H : (some (a0_0, a0_2, a0_1)) = some (r1, r2, r3) := h
 clear h
 simp only [Option.some.injEq, Prod.mk.injEq] at H
 obtain ⟨rfl, rfl, rfl⟩ := H
 go_enter Try.func25, Try.ntmps25
 go_wp2_with (first | ((with_reducible refine gate_dst (N := 1) rfl ?_); refine be_ (N := 1) (cs := #[.int .i64 a0_0, .string a0_1, .string a0_2]) (t := 24) (h := ?_); intro gb132 hg w2 hbox hb; have BK132 := Aside0.mk (hbox); have GW132 := gw_ HB hg; have GE132 := gw_ HB hg; replace HB := bs_ HB hb; clear hb hbox hg) | ((with_reducible refine gate_dst (N := 2) rfl ?_); refine be_ (N := 2) (cs := #[.int .i64 0, .string (⟨#[]⟩ : ByteArray), .string (⟨#[]⟩ : ByteArray)]) (t := 24) (h := ?_); intro gb133 hg w3 hbox hb; have BK133 := Aside0.mk (hbox); have GW133 := gw_ HB hg; have GE133 := gw_ HB hg; have NB132_133 := ne_ BK132 hg; have NB133_132 := en_ BK132 hg; replace BK132 := bb_ BK132 hb; replace HB := bs_ HB hb; clear hb hbox hg; have hnb4 := NB132_133.out; have hnc4 := NB133_132.out; obtain ⟨hcz5_0, hcz5_1, hcz5_2, hfz5_0, hfz5_1, hfz5_2⟩ := bc3_ BK132; obtain ⟨hcz6_0, hcz6_1, hcz6_2, hfz6_0, hfz6_1, hfz6_2⟩ := bc3_ BK133))
 refine bodyPost_ret (results_cell_row rfl _ _ gb133 24 #[.int .i64 a0_0, .string a0_2, .string a0_1] (0, 0) _ rfl (bp_ BK133.out) Try.underlying24 rfl (by kernel_rfl)) rfl ?_
 exact ⟨er_, hb_ HB⟩

/-! ### batch_Turn: function 72 -/
def batch_Turn.l0 : Nat → List (S24) → Int → List (S24) → Int → Int → Option ((List (S24)))
 | 0, _, _, _, _, _ => none
 | k + 1, x3, x4, x11, x12, x13 => if x13 < x12 then (if 0 ≤ x13 then (if x13 < (x11.length : Int) then ((change_Turn.f ((rd_T24 x11 x13).f0) ((rd_T24 x11 x13).f1) ((rd_T24 x11 x13).f2)).bind fun bt137 => (if x3.length < 3518437208883 then (batch_Turn.l0 k (x3 ++ [(⟨wrap64 (bt137.1 + x4), bt137.2.1, bt137.2.2⟩ : S24)]) (wrap64 (x4 + (wrap64 ((((rd_T24 x11 x13).f2).size : Int) - (((rd_T24 x11 x13).f1).size : Int))))) x11 x12 (wrap64 (x13 + 1))) else (none))) else (none)) else (none)) else (some x3)
def batch_Turn.f (k : Nat) (l0 : List (S24)) : Option ((List (S24))) := (batch_apart.f k l0).bind fun t134 => (if t134 = true then (batch_Turn.l0 k ([] : List (S24)) 0 l0 (l0.length : Int) 0) else (some ([] : List (S24))))
theorem batch_Turn.mono_l : ∀ k, (∀ y0 y1 y2 y3 y4, LeO (batch_Turn.l0 k y0 y1 y2 y3 y4) (batch_Turn.l0 (k + 1) y0 y1 y2 y3 y4))
 | 0 => fun _ _ _ _ _ r h => by simp [batch_Turn.l0] at h
 | k + 1 => by
  have ih0 := batch_Turn.mono_l k
  ·intro y0 y1 y2 y3 y4
   unfold batch_Turn.l0
   repeat' first
   | (with_reducible exact ih0 _ _ _ _ _)
   | (with_reducible exact batch_apart.mono _ _)
   | (with_reducible exact LeO.refl _)
   | (with_reducible exact LeO.none _)
   | (with_reducible refine LeO.ite ?_ ?_)
   | (with_reducible refine LeO.bind ?_ (fun _ => ?_))
   | exact ih0 _ _ _ _ _
   | exact batch_apart.mono _ _
   | exact LeO.none _
   | refine LeO.ite ?_ ?_
   | refine LeO.bind ?_ (fun _ => ?_)
theorem batch_Turn.mono : ∀ a0 k, LeO (batch_Turn.f k a0) (batch_Turn.f (k + 1) a0) := by
 intro a0 k
 have ih0 := batch_Turn.mono_l k
 unfold batch_Turn.f
 repeat' first
   | (with_reducible exact ih0 _ _ _ _ _)
   | (with_reducible exact batch_apart.mono _ _)
   | (with_reducible exact LeO.refl _)
   | (with_reducible exact LeO.none _)
   | (with_reducible refine LeO.ite ?_ ?_)
   | (with_reducible refine LeO.bind ?_ (fun _ => ?_))
   | exact ih0 _ _ _ _ _
   | exact batch_apart.mono _ _
   | exact LeO.none _
   | refine LeO.ite ?_ ?_
   | refine LeO.bind ?_ (fun _ => ?_)
set_option maxHeartbeats 8000000 in
set_option maxRecDepth 100000 in
theorem batch_Turn.calls (k : Nat) (A0 : Option Addr) (c0 : Nat) (l0 : List (S24)) (r : List (S24)) (w : World) (hr0 : Kd.C k24 w A0 l0.length l0) (hc0 : l0.length ≤ c0) (h : batch_Turn.f k l0 = some r) :
  Calls Try.prog 72 #[.slice A0 l0.length c0] w fun e w' => ∃ v0_ : Value, e = .returned (v0_) ∧ Kd.R k24 24 w' w.heap.size (fun _ => True) v0_ r ∧ Below w.heap.size w w' := by
 have hu24 := Try.underlying24
 have HR0 := Aside0.mk hr0
 have HC0 := Aside0.mk hc0
 clear hr0 hc0
 have HB := Aside0.mk (Below.refl w.heap.size w)
 have H : ((batch_apart.f k l0).bind fun t134 => (if t134 = true then (batch_Turn.l0 k ([] : List (S24)) 0 l0 (l0.length : Int) 0) else (some ([] : List (S24))))) = some r := h
 clear h
 replace H := Option.bind_eq_some_iff.mp H
 obtain ⟨t134, A20, H⟩ := H
 replace H : (if t134 = true then (batch_Turn.l0 k ([] : List (S24)) 0 l0 (l0.length : Int) 0) else (some ([] : List (S24)))) = some r := H
 have A2 := Aside0.mk A20
 clear A20
 by_cases c3 : t134 = true
 ·subst c3
  have H1 : (batch_Turn.l0 k ([] : List (S24)) 0 l0 (l0.length : Int) 0) = some r := by rw [if_pos rfl] at H; exact H
  clear H
  have H := H1
  clear H1
  have H' := Aside0.mk H
  clear H
  go_enter Try.func72, Try.ntmps72
  go_wp2_with (first | ((with_reducible refine gate_callee (f := 94) rfl ?_); refine ge_ (some 9) rfl rfl Try.func94 (by kernel_rfl) rfl #[.slice A0 l0.length c0] rfl (h := ?_); (with_reducible refine (batch_apart.calls k _ _ l0 true _ ?side1 ?side2 A2.out).mono ?_); (case side1 => exact cw_ HR0.out); (case side2 => exact HC0.out); rintro e w' ⟨rfl, ⟨nd, rfl⟩⟩; refine ⟨_, rfl, ?_⟩))
  go_loopg [3, 4, 13] k (fun kq v3 v4 v13 w' => ∃ (x3_1 : List (S24)) (x4_1 : Int) (x13_1 : Int), v4 = .int .i64 x4_1 ∧ v13 = .int .i64 x13_1 ∧ Aside0 (batch_Turn.l0 kq x3_1 x4_1 l0 (l0.length : Int) x13_1 = some r) ∧ Aside0 (kq ≤ k) ∧ Aside0 (Kd.R k24 24 w' w.heap.size (fun _ => True) v3 x3_1) ∧ Aside0 (Below w.heap.size w w'))
  case atStart => exact ⟨(([] : List (S24))), (0), (0), es_, es_, H', ⟨Nat.le_refl _⟩, ⟨by first | exact Kd.R_nil _ _ _ _ _ | exact Kd.N_nil _ _ _ _ _ | exact Kd.V_nil _ _ _ _ _ | exact Kd.Q_nil _ _ _ _ _ | exact Kd.S_nil _ _ _ _ _⟩, ⟨hb_ HB⟩⟩
  case round =>
   clear H'
   try clear c3
   obtain ⟨x3_1, x4_1, x13_1, rfl, rfl, HA, HK1, HO_3, HB⟩ := hrel
   cases gk with
   | zero => exact absurd HA.out (by simp [batch_Turn.l0])
   | succ k1 =>
    have H := HA.out
    clear HA
    simp only [batch_Turn.l0] at H
    by_cases c4 : x13_1 < (l0.length : Int)
    ·rw [if_pos c4] at H
     have c4b0 : decide (x13_1 < (l0.length : Int)) = true := decide_eq_true c4
     clear c4
     by_cases c5 : 0 ≤ x13_1
     ·rw [if_pos c5] at H
      have c5b0 : decide (0 ≤ x13_1) = true := decide_eq_true c5
      clear c5
      by_cases c6 : x13_1 < (l0.length : Int)
      ·rw [if_pos c6] at H
       have c6b0 : decide (x13_1 < (l0.length : Int)) = true := decide_eq_true c6
       clear c6
       replace H := Option.bind_eq_some_iff.mp H
       obtain ⟨⟨t137, t138, t139⟩, A70, H⟩ := H
       replace H : (if x3_1.length < 3518437208883 then (batch_Turn.l0 k1 (x3_1 ++ [(⟨wrap64 (t137 + x4_1), t138, t139⟩ : S24)]) (wrap64 (x4_1 + (wrap64 ((((rd_T24 l0 x13_1).f2).size : Int) - (((rd_T24 l0 x13_1).f1).size : Int))))) l0 (l0.length : Int) (wrap64 (x13_1 + 1))) else (none)) = some r := H
       have A7 := Aside0.mk A70
       clear A70
       by_cases c8 : x3_1.length < 3518437208883
       ·rw [if_pos c8] at H
        have LMc8 := Aside0.mk c8
        clear c8
        obtain ⟨y141, hy141⟩ : ∃ y_ : List (S24), y_ = (x3_1 ++ [(⟨wrap64 (t137 + x4_1), t138, t139⟩ : S24)]) := ⟨_, rfl⟩
        replace H : (batch_Turn.l0 k1 y141 (wrap64 (x4_1 + (wrap64 ((((rd_T24 l0 x13_1).f2).size : Int) - (((rd_T24 l0 x13_1).f1).size : Int))))) l0 (l0.length : Int) (wrap64 (x13_1 + 1))) = some r := th_ H hy141
        have Ny141 := Aside0.mk hy141
        clear hy141
        have H' := Aside0.mk H
        clear H
        have p135 : 0 ≤ (x13_1 : Int) := of_decide_eq_true as_
        have q135 : x13_1 < (l0.length : Int) := of_decide_eq_true as_
        obtain ⟨ad135, e135, hx135_0, hx135_1, hx135_2⟩ := at_T24b HR0 HB x13_1 p135 q135
        cases e135
        replace p135 := eq_true p135
        replace q135 := eq_true q135
        go_wp2_with (first | ((with_reducible refine gate_dst (N := 6) rfl ?_); refine be_ (N := 6) (cs := #[.int .i64 0, .string (⟨#[]⟩ : ByteArray), .string (⟨#[]⟩ : ByteArray)]) (t := 24) (h := ?_); intro gb136 hg w9 hbox hb; have BK136 := Aside0.mk (hbox); have GW136 := gw_ HB hg; have GE136 := gw_ HB hg; replace HO_3 := Aside0.mk (Kd.R_below (Kd.R_elderB (rw_ HO_3.out) gb136 (Nat.le_of_eq hg.symm)) hb); replace HB := bs_ HB hb; clear hb hbox hg; obtain ⟨hcz10_0, hcz10_1, hcz10_2, hfz10_0, hfz10_1, hfz10_2⟩ := bc3_ BK136) | ((with_reducible refine gate_callee (f := 25) rfl ?_); refine ge_ (some 18) rfl rfl Try.func25 (by kernel_rfl) rfl #[.agg #[.int .i64 ((rd_T24 l0 x13_1).f0), .string ((rd_T24 l0 x13_1).f1), .string ((rd_T24 l0 x13_1).f2)]] rfl (h := ?_); (with_reducible refine (change_Turn.calls ((rd_T24 l0 x13_1).f0) ((rd_T24 l0 x13_1).f1) ((rd_T24 l0 x13_1).f2) t137 t138 t139 _ A7.out).mono ?_); rintro e w11 ⟨rfl, hb⟩; refine ⟨_, rfl, ?_⟩; replace HO_3 := Aside0.mk (Kd.R_below (by (with_reducible repeat (first | apply Kd.R_alloc | apply Kd.R_drewN | apply Kd.R_drew)); exact (Kd.R_mono (rf_ (Kd.R_mono HO_3.out (fun k_ hk => (⟨hk, hk.2⟩ : _ ∧ k_ ≠ gb136))) (fun _ hk => hk.2)) (fun _ h_ => h_.1))) hb); replace BK136 := Aside0.mk (blk_below (g := gb136) (o := .cells #[.int .i64 ((rd_T24 l0 x13_1).f0), .string ((rd_T24 l0 x13_1).f1), .string ((rd_T24 l0 x13_1).f2)] 24 (0, 0)) (bp_ BK136.out) hb); replace HB := bs_ HB hb; (try clear hb); (try clear hb2); (try clear hk); (try clear hi)) | ((with_reducible refine gate_dst (N := 7) rfl ?_); refine be_ (N := 7) (cs := #[.int .i64 0, .string (⟨#[]⟩ : ByteArray), .string (⟨#[]⟩ : ByteArray)]) (t := 24) (h := ?_); intro gb140 hg w12 hbox hb; have BK140 := Aside0.mk (hbox); have GW140 := gw_ HB hg; have GE140 := gw_ HB hg; have NB136_140 := ne_ BK136 hg; have NB140_136 := en_ BK136 hg; replace HO_3 := Aside0.mk (Kd.R_below (Kd.R_elderB (rw_ HO_3.out) gb140 (Nat.le_of_eq hg.symm)) hb); replace BK136 := bb_ BK136 hb; replace HB := bs_ HB hb; clear hb hbox hg; have hnb13 := NB140_136.out; have hnc13 := NB136_140.out; obtain ⟨hcz14_0, hcz14_1, hcz14_2, hfz14_0, hfz14_1, hfz14_2⟩ := bc3_ BK140; obtain ⟨hcz15_0, hcz15_1, hcz15_2, hfz15_0, hfz15_1, hfz15_2⟩ := bc3_ BK136) | ((with_reducible refine gate_builtin (b := .append) (xs := #[.tmp 33, .tmp 35]) rfl ?_); at_builtin; refine Kd.R_append k24 (w0 := w) w.heap.size rfl (.tmp 33) (.tmp 35) 27 24 (.agg #[(.int .i64 0), (.string ⟨#[]⟩), (.string ⟨#[]⟩)]) 40 rfl Try.underlying27 info24 rfl (by decide) (by omega) u3 x3_1 (⟨wrap64 (t137 + x4_1), t138, t139⟩ : S24) [.int .i64 (wrap64 (t137 + x4_1)), .string t138, .string t139] (fun k_ => k_ ≠ gb136 ∧ k_ ≠ gb140) (fun _ => False) rfl (by first | (go_simp; done) | (go_simp; rfl)) ?aP (fun _ hk => hk.elim) ?aF ?aO ?aB ?aS ?aL ?_; (case aP => exact k24_mkM _ _ _ (⟨wrap64 (t137 + x4_1), t138, t139⟩ : S24)); (case aB => exact (hb_ HB)); (case aF => exact (fun k_ hk => ⟨Kd.freshB (g := gb136) (o := .cells #[.int .i64 ((rd_T24 l0 x13_1).f0), .string ((rd_T24 l0 x13_1).f1), .string ((rd_T24 l0 x13_1).f2)] 24 (0, 0)) (bp_ BK136.out) k_ hk, Kd.freshB (g := gb140) (o := .cells #[.int .i64 (wrap64 (t137 + x4_1)), .string t138, .string t139] 24 (0, 0)) (bp_ BK140.out) k_ hk⟩)); (case aO => exact (by (with_reducible repeat (first | apply Kd.R_alloc | apply Kd.R_drewN | apply Kd.R_drew)); exact Kd.R_mono (rf_ (Kd.R_mono HO_3.out (fun k_ hk => (⟨hk, hk.2⟩ : _ ∧ k_ ≠ gb140))) (fun _ hk => hk.2)) (fun _ hk => ⟨hk.1.1.2, hk.1.2⟩))); (case aS => exact (below_size (hb_ HB))); (case aL => have := LMc8.out; omega); intro v142 w16 ho hb hg hat; rw [← Ny141.out] at ho; have n0_ := Aside0.mk (blk_grown (g := gb136) (o := .cells #[.int .i64 ((rd_T24 l0 x13_1).f0), .string ((rd_T24 l0 x13_1).f1), .string ((rd_T24 l0 x13_1).f2)] 24 (0, 0)) (bp_ BK136.out) hg (Kd.R_away HO_3.out (fun _ hk => hk.1.2))); have n1_ := Aside0.mk (blk_grown (g := gb140) (o := .cells #[.int .i64 (wrap64 (t137 + x4_1)), .string t138, .string t139] 24 (0, 0)) (bp_ BK140.out) hg (Kd.R_away HO_3.out (fun _ hk => hk.2))); have n2_ := Aside0.mk (hb); have n3_ := Aside0.mk (ho); clear BK136; clear BK140; clear HB; clear HO_3; have BK136 := n0_; have BK140 := n1_; have HB := n2_; have HO143 := n3_; clear n0_ n1_ n2_ n3_; clear ho hb hg hat))
        go_roundg k1
        case measure => have := HK1.out; omega
        case rel => exact ⟨(y141), (wrap64 (x4_1 + (wrap64 ((((rd_T24 l0 x13_1).f2).size : Int) - (((rd_T24 l0 x13_1).f1).size : Int))))), (wrap64 (x13_1 + 1)), es_, es_, H', ⟨by have := HK1.out; omega⟩, ⟨by (with_reducible repeat (first | apply Kd.R_alloc | apply Kd.R_drewN | apply Kd.R_drew)); exact Kd.R_mono HO143.out (fun _ hk => trivial)⟩, ⟨hb_ HB⟩⟩
       ·rw [if_neg c8] at H
        exact absurd H (by simp)
      ·rw [if_neg c6] at H
       exact absurd H (by simp)
     ·rw [if_neg c5] at H
      exact absurd H (by simp)
    ·rw [if_neg c4] at H
     have c4b0 : decide (x13_1 < (l0.length : Int)) = false := decide_eq_false c4
     clear c4
     obtain rfl := Option.some.inj H
     go_wp2
     go_ret
     exact ⟨_, er_, by (with_reducible repeat (first | apply Kd.R_alloc | apply Kd.R_drewN | apply Kd.R_drew)); exact HO_3.out, hb_ HB⟩
 ·replace c3 := Bool.eq_false_iff.mpr c3
  subst c3
  have H1 : (some ([] : List (S24))) = some r := by rw [if_neg (show ¬ (false = true) by decide)] at H; exact H
  clear H
  have H := H1
  clear H1
  obtain rfl := Option.some.inj H
  go_enter Try.func72, Try.ntmps72
  go_wp2_with (first | ((with_reducible refine gate_callee (f := 94) rfl ?_); refine ge_ (some 9) rfl rfl Try.func94 (by kernel_rfl) rfl #[.slice A0 l0.length c0] rfl (h := ?_); (with_reducible refine (batch_apart.calls k _ _ l0 false _ ?side1 ?side2 A2.out).mono ?_); (case side1 => exact cw_ HR0.out); (case side2 => exact HC0.out); rintro e w' ⟨rfl, ⟨nd, rfl⟩⟩; refine ⟨_, rfl, ?_⟩))
  go_ret
  exact ⟨_, er_, by first | exact Kd.R_nil _ _ _ _ _ | exact Kd.N_nil _ _ _ _ _ | exact Kd.V_nil _ _ _ _ _ | exact Kd.Q_nil _ _ _ _ _ | exact Kd.S_nil _ _ _ _ _, hb_ HB⟩

/-! ### calamuslaw09_lives: function 30 -/
def calamuslaw09_lives.f (k : Nat)  : Option (Bool) := (some (([(⟨0, (⟨#[97]⟩ : ByteArray), (⟨#[120, 120]⟩ : ByteArray)⟩ : S24), (⟨2, (⟨#[99]⟩ : ByteArray), (⟨#[]⟩ : ByteArray)⟩ : S24)] : List (S24)) : List (S24))).bind fun y144 => ((batch_Do.f k (⟨#[97, 98, 99]⟩ : ByteArray) y144).bind fun bt147 => (if bt147.1.toList = ([120, 120, 98] : List UInt8) then (if bt147.2 = 0 then ((batch_Turn.f k y144).bind fun t149 => ((calamusref09_Same.f k t149 (([(⟨0, (⟨#[120, 120]⟩ : ByteArray), (⟨#[97]⟩ : ByteArray)⟩ : S24), (⟨3, (⟨#[]⟩ : ByteArray), (⟨#[99]⟩ : ByteArray)⟩ : S24)] : List (S24)))).bind fun t155 => (some t155))) else (some false)) else (some false)))
theorem calamuslaw09_lives.mono : ∀ k, LeO (calamuslaw09_lives.f k ) (calamuslaw09_lives.f (k + 1) ) := by
 intro  k
 unfold calamuslaw09_lives.f
 repeat' first
   | (with_reducible exact batch_Do.mono _ _ _)
   | (with_reducible exact batch_Turn.mono _ _)
   | (with_reducible exact calamusref09_Same.mono _ _ _)
   | (with_reducible exact LeO.refl _)
   | (with_reducible exact LeO.none _)
   | (with_reducible refine LeO.ite ?_ ?_)
   | (with_reducible refine LeO.bind ?_ (fun _ => ?_))
   | exact batch_Do.mono _ _ _
   | exact batch_Turn.mono _ _
   | exact calamusref09_Same.mono _ _ _
   | exact LeO.none _
   | refine LeO.ite ?_ ?_
   | refine LeO.bind ?_ (fun _ => ?_)
theorem calamuslaw09_lives.true_ {k : Nat} {r : Bool} (h : calamuslaw09_lives.f k = some r) : r = true := by
 have h1 := at_rounds (g := fun k => calamuslaw09_lives.f k) calamuslaw09_lives.mono (Nat.le_max_left k 60) h
 have h2 := at_rounds (g := fun k => calamuslaw09_lives.f k) calamuslaw09_lives.mono (Nat.le_max_right k 60) (show calamuslaw09_lives.f 60 = some true by decide +kernel)
 rw [h1] at h2
 exact Option.some.inj h2
set_option maxHeartbeats 8000000 in
set_option maxRecDepth 100000 in
theorem calamuslaw09_lives.calls (k : Nat)  (r : Bool) (w : World) (h : calamuslaw09_lives.f k  = some r) :
  Calls Try.prog 30 #[] w fun e w' => e = .returned (.bool r) ∧ Below w.heap.size w w' := by
 have hr_ := calamuslaw09_lives.true_ h
 have hu24 := Try.underlying24
 have HB := Aside0.mk (Below.refl w.heap.size w)
 have H : ((some (([(⟨0, (⟨#[97]⟩ : ByteArray), (⟨#[120, 120]⟩ : ByteArray)⟩ : S24), (⟨2, (⟨#[99]⟩ : ByteArray), (⟨#[]⟩ : ByteArray)⟩ : S24)] : List (S24)) : List (S24))).bind fun y144 => ((batch_Do.f k (⟨#[97, 98, 99]⟩ : ByteArray) y144).bind fun bt147 => (if bt147.1.toList = ([120, 120, 98] : List UInt8) then (if bt147.2 = 0 then ((batch_Turn.f k y144).bind fun t149 => ((calamusref09_Same.f k t149 (([(⟨0, (⟨#[120, 120]⟩ : ByteArray), (⟨#[97]⟩ : ByteArray)⟩ : S24), (⟨3, (⟨#[]⟩ : ByteArray), (⟨#[99]⟩ : ByteArray)⟩ : S24)] : List (S24)))).bind fun t155 => (some t155))) else (some false)) else (some false)))) = some r := h
 clear h
 obtain ⟨y144, hy144⟩ : ∃ y_ : List (S24), y_ = (([(⟨0, (⟨#[97]⟩ : ByteArray), (⟨#[120, 120]⟩ : ByteArray)⟩ : S24), (⟨2, (⟨#[99]⟩ : ByteArray), (⟨#[]⟩ : ByteArray)⟩ : S24)] : List (S24))) := ⟨_, rfl⟩
 replace H : ((batch_Do.f k (⟨#[97, 98, 99]⟩ : ByteArray) y144).bind fun bt147 => (if bt147.1.toList = ([120, 120, 98] : List UInt8) then (if bt147.2 = 0 then ((batch_Turn.f k y144).bind fun t149 => ((calamusref09_Same.f k t149 (([(⟨0, (⟨#[120, 120]⟩ : ByteArray), (⟨#[97]⟩ : ByteArray)⟩ : S24), (⟨3, (⟨#[]⟩ : ByteArray), (⟨#[99]⟩ : ByteArray)⟩ : S24)] : List (S24)))).bind fun t155 => (some t155))) else (some false)) else (some false))) = some r := th_ H hy144
 have Ny144 := Aside0.mk hy144
 clear hy144
 replace H := Option.bind_eq_some_iff.mp H
 obtain ⟨⟨t147, t148⟩, A10, H⟩ := H
 replace H : (if t147.toList = ([120, 120, 98] : List UInt8) then (if t148 = 0 then ((batch_Turn.f k y144).bind fun t149 => ((calamusref09_Same.f k t149 (([(⟨0, (⟨#[120, 120]⟩ : ByteArray), (⟨#[97]⟩ : ByteArray)⟩ : S24), (⟨3, (⟨#[]⟩ : ByteArray), (⟨#[99]⟩ : ByteArray)⟩ : S24)] : List (S24)))).bind fun t155 => (some t155))) else (some false)) else (some false)) = some r := H
 have A1 := Aside0.mk A10
 clear A10
 by_cases c2 : t147.toList = ([120, 120, 98] : List UInt8)
 ·rw [if_pos c2] at H
  have c2b0 : (t147.toList == ([120, 120, 98] : List UInt8)) = true := beq_iff_eq.mpr c2
  have c2b1 : (t147.toList != ([120, 120, 98] : List UInt8)) = false := bne_eq_false_iff_eq.mpr c2
  clear c2
  by_cases c3 : t148 = 0
  ·rw [if_pos c3] at H
   have c3b0 : (t148 == 0) = true := beq_iff_eq.mpr c3
   have c3b1 : (t148 != 0) = false := bne_eq_false_iff_eq.mpr c3
   clear c3
   replace H := Option.bind_eq_some_iff.mp H
   obtain ⟨t149, A40, H⟩ := H
   replace H : ((calamusref09_Same.f k t149 (([(⟨0, (⟨#[120, 120]⟩ : ByteArray), (⟨#[97]⟩ : ByteArray)⟩ : S24), (⟨3, (⟨#[]⟩ : ByteArray), (⟨#[99]⟩ : ByteArray)⟩ : S24)] : List (S24)))).bind fun t155 => (some t155)) = some r := H
   have A4 := Aside0.mk A40
   clear A40
   obtain ⟨y152, hy152⟩ : ∃ y_ : List (S24), y_ = (([(⟨0, (⟨#[120, 120]⟩ : ByteArray), (⟨#[97]⟩ : ByteArray)⟩ : S24), (⟨3, (⟨#[]⟩ : ByteArray), (⟨#[99]⟩ : ByteArray)⟩ : S24)] : List (S24))) := ⟨_, rfl⟩
   replace H : ((calamusref09_Same.f k t149 y152).bind fun t155 => (some t155)) = some r := th_ H hy152
   have Ny152 := Aside0.mk hy152
   clear hy152
   replace H := Option.bind_eq_some_iff.mp H
   obtain ⟨t155, A50, H⟩ := H
   replace H : (some t155) = some r := H
   have A5 := Aside0.mk A50
   clear A50
   obtain rfl := Option.some.inj H
   go_enter Try.func30, Try.ntmps30
   go_wp2_with (first | ((with_reducible refine gate_dst (N := 6) rfl ?_); (try (refine gate_guard (by rfl) ?_; dsimp only)); refine Kd.R_lit k24 _ 24 ?hg (N := 6) ?hd (xs := ([(⟨0, (⟨#[97]⟩ : ByteArray), (⟨#[120, 120]⟩ : ByteArray)⟩ : S24), (⟨2, (⟨#[99]⟩ : ByteArray), (⟨#[]⟩ : ByteArray)⟩ : S24)] : List (S24))) (inner := [.int .i64 0, .string (⟨#[97]⟩ : ByteArray), .string (⟨#[120, 120]⟩ : ByteArray), .int .i64 2, .string (⟨#[99]⟩ : ByteArray), .string (⟨#[]⟩ : ByteArray)]) (ok := fun _ => True) (okp := fun _ => True) ?hr ?hp (fun _ hk => hk) trivial (Below.refl _ _) (Nat.le_refl _) (by simp) ?_; (case hd => rfl); (case hg => rfl); (case hr => first | (go_simp; done) | (go_simp; rfl)); (case hp => exact (Reps.c3 (show Kd.M k24 _ _ _ (⟨0, (⟨#[97]⟩ : ByteArray), (⟨#[120, 120]⟩ : ByteArray)⟩ : S24) [.int .i64 0, .string (⟨#[97]⟩ : ByteArray), .string (⟨#[120, 120]⟩ : ByteArray)] from (k24_mkM _ _ _ (⟨0, (⟨#[97]⟩ : ByteArray), (⟨#[120, 120]⟩ : ByteArray)⟩ : S24) )) (Reps.c3 (show Kd.M k24 _ _ _ (⟨2, (⟨#[99]⟩ : ByteArray), (⟨#[]⟩ : ByteArray)⟩ : S24) [.int .i64 2, .string (⟨#[99]⟩ : ByteArray), .string (⟨#[]⟩ : ByteArray)] from (k24_mkM _ _ _ (⟨2, (⟨#[99]⟩ : ByteArray), (⟨#[]⟩ : ByteArray)⟩ : S24) )) (Reps.none _ _)))); intro v145 w6 ho7 hb hg_ hnew_; clear hg_ hnew_; (first | rw [← Ny144.out] at ho7 | (simp only [Int.reduceToNat] at ho7; rw [← Ny144.out] at ho7)); have HO146 := Aside0.mk (Kd.R_lower ho7 (below_size (hb_ HB))); replace HB := bs_ HB hb; clear hb ho7; obtain ⟨Ao8, co8, eo8⟩ := Kd.R_slice HO146.out; subst eo8) | ((with_reducible refine gate_callee (f := 31) rfl ?_); refine ge_ (some 9) rfl rfl Try.func31 (by kernel_rfl) rfl #[.string (⟨#[97, 98, 99]⟩ : ByteArray), .slice Ao8 y144.length co8] rfl (h := ?_); (with_reducible refine (batch_Do.calls k (⟨#[97, 98, 99]⟩ : ByteArray) _ _ y144 t147 t148 _ ?side1 ?side2 A1.out).mono ?_); (case side1 => repeat (first | exact (Kd.R_reads' HO146.out).2.2 | (with_reducible refine Kd.C_alloc ?_ _) | (with_reducible refine Kd.C_drewN ?_ _) | (with_reducible refine Kd.C_drew ?_))); (case side2 => exact (Kd.R_reads' HO146.out).2.1); rintro e w9 ⟨rfl, hb⟩; refine ⟨_, rfl, ?_⟩; replace HO146 := Aside0.mk (Kd.R_below (rw_ HO146.out) hb); replace HB := bs_ HB hb; (try clear hb); (try clear hb2); (try clear hk); (try clear hi)) | (go_at_call 72; (with_reducible refine (batch_Turn.calls k _ _ y144 t149 _ ?side1 ?side2 A4.out).mono ?_); (case side1 => repeat (first | exact (Kd.R_reads' HO146.out).2.2 | (with_reducible refine Kd.C_alloc ?_ _) | (with_reducible refine Kd.C_drewN ?_ _) | (with_reducible refine Kd.C_drew ?_))); (case side2 => exact (Kd.R_reads' HO146.out).2.1); rintro e w10 ⟨v150, rfl, ho0, hb⟩; have HO151 := Aside0.mk (Kd.R_lower (Kd.R_new' ho0 (Kd.R_lt (rw_ HO146.out))) (below_size (hb_ HB))); replace HO146 := Aside0.mk (Kd.R_elder' (rw_ HO146.out) (Kd.R_base ho0) hb); replace HB := bs_ HB hb; (try clear hb); (try clear hb2); (try clear hk); (try clear hi); (try clear ho0)) | ((with_reducible refine gate_dst (N := 23) rfl ?_); (try (refine gate_guard (by rfl) ?_; dsimp only)); refine Kd.R_lit k24 _ 24 ?hg (N := 23) ?hd (xs := ([(⟨0, (⟨#[120, 120]⟩ : ByteArray), (⟨#[97]⟩ : ByteArray)⟩ : S24), (⟨3, (⟨#[]⟩ : ByteArray), (⟨#[99]⟩ : ByteArray)⟩ : S24)] : List (S24))) (inner := [.int .i64 0, .string (⟨#[120, 120]⟩ : ByteArray), .string (⟨#[97]⟩ : ByteArray), .int .i64 3, .string (⟨#[]⟩ : ByteArray), .string (⟨#[99]⟩ : ByteArray)]) (ok := fun _ => True) (okp := fun _ => True) ?hr ?hp (fun _ hk => hk) trivial (Below.refl _ _) (Nat.le_refl _) (by simp) ?_; (case hd => rfl); (case hg => rfl); (case hr => first | (go_simp; done) | (go_simp; rfl)); (case hp => exact (Reps.c3 (show Kd.M k24 _ _ _ (⟨0, (⟨#[120, 120]⟩ : ByteArray), (⟨#[97]⟩ : ByteArray)⟩ : S24) [.int .i64 0, .string (⟨#[120, 120]⟩ : ByteArray), .string (⟨#[97]⟩ : ByteArray)] from (k24_mkM _ _ _ (⟨0, (⟨#[120, 120]⟩ : ByteArray), (⟨#[97]⟩ : ByteArray)⟩ : S24) )) (Reps.c3 (show Kd.M k24 _ _ _ (⟨3, (⟨#[]⟩ : ByteArray), (⟨#[99]⟩ : ByteArray)⟩ : S24) [.int .i64 3, .string (⟨#[]⟩ : ByteArray), .string (⟨#[99]⟩ : ByteArray)] from (k24_mkM _ _ _ (⟨3, (⟨#[]⟩ : ByteArray), (⟨#[99]⟩ : ByteArray)⟩ : S24) )) (Reps.none _ _)))); intro v153 w11 ho12 hb hg_ hnew_; clear hg_ hnew_; (first | rw [← Ny152.out] at ho12 | (simp only [Int.reduceToNat] at ho12; rw [← Ny152.out] at ho12)); have HO154 := Aside0.mk (Kd.R_lower (Kd.R_new' (Kd.R_new' ho12 (Kd.R_lt (rw_ HO146.out))) (Kd.R_lt (rw_ HO151.out))) (below_size (hb_ HB))); replace HO146 := Aside0.mk (Kd.R_elder' (rw_ HO146.out) (Kd.R_base ho12) hb); replace HO151 := Aside0.mk (Kd.R_elder' (rw_ HO151.out) (Kd.R_base ho12) hb); replace HB := bs_ HB hb; clear hb ho12; obtain ⟨Ao13, co13, eo13⟩ := Kd.R_slice HO151.out; subst eo13; obtain ⟨Ao14, co14, eo14⟩ := Kd.R_slice HO154.out; subst eo14) | (go_at_call 71; (with_reducible refine (calamusref09_Same.calls k _ _ t149 _ _ y152 t155 _ ?side1 ?side2 ?side3 ?side4 A5.out).mono ?_); (case side1 => repeat (first | exact (Kd.R_reads' HO151.out).2.2 | (with_reducible refine Kd.C_alloc ?_ _) | (with_reducible refine Kd.C_drewN ?_ _) | (with_reducible refine Kd.C_drew ?_))); (case side2 => exact (Kd.R_reads' HO151.out).2.1); (case side3 => repeat (first | exact (Kd.R_reads' HO154.out).2.2 | (with_reducible refine Kd.C_alloc ?_ _) | (with_reducible refine Kd.C_drewN ?_ _) | (with_reducible refine Kd.C_drew ?_))); (case side4 => exact (Kd.R_reads' HO154.out).2.1); rintro e w' ⟨rfl, ⟨nd, rfl⟩⟩))
   go_ret
   exact ⟨er_, hb_ HB⟩
  ·rw [if_neg c3] at H
   have c3b0 : (t148 == 0) = false := beq_eq_false_iff_ne.mpr c3
   have c3b1 : (t148 != 0) = true := bne_iff_ne.mpr c3
   exact nf_ H hr_
 ·rw [if_neg c2] at H
  have c2b0 : (t147.toList == ([120, 120, 98] : List UInt8)) = false := beq_eq_false_iff_ne.mpr c2
  have c2b1 : (t147.toList != ([120, 120, 98] : List UInt8)) = true := bne_iff_ne.mpr c2
  exact nf_ H hr_
/-! ### change_shift: function 63 -/
def change_shift.f (a0 : Int) (a1_0 : Int) (a1_1 : ByteArray) (a1_2 : ByteArray) : Option (Int) := if a0 < a1_0 then (some a0) else (if a0 < (wrap64 (a1_0 + (a1_1.size : Int))) then (some a1_0) else (some (wrap64 ((wrap64 (a0 + (a1_2.size : Int))) - (a1_1.size : Int)))))
set_option maxHeartbeats 8000000 in
set_option maxRecDepth 100000 in
theorem change_shift.calls (a0 : Int) (a1_0 : Int) (a1_1 : ByteArray) (a1_2 : ByteArray) (r : Int) (w : World) (h : change_shift.f a0 a1_0 a1_1 a1_2 = some r) :
  Calls Try.prog 63 #[.int .i64 a0, .agg #[.int .i64 a1_0, .string a1_1, .string a1_2]] w fun e w' => e = .returned (.int .i64 r) ∧ Below w.heap.size w w' := by
 have hu24 := Try.underlying24
 have HB := Aside0.mk (Below.refl w.heap.size w)
 have H : (if a0 < a1_0 then (some a0) else (if a0 < (wrap64 (a1_0 + (a1_1.size : Int))) then (some a1_0) else (some (wrap64 ((wrap64 (a0 + (a1_2.size : Int))) - (a1_1.size : Int)))))) = some r := h
 clear h
 by_cases c3 : a0 < a1_0
 ·rw [if_pos c3] at H
  have c3b0 : decide (a0 < a1_0) = true := decide_eq_true c3
  clear c3
  obtain rfl := Option.some.inj H
  go_enter Try.func63, Try.ntmps63
  go_wp2_with (first | ((with_reducible refine gate_dst (N := 3) rfl ?_); refine be_ (N := 3) (cs := #[.int .i64 a1_0, .string a1_1, .string a1_2]) (t := 24) (h := ?_); intro gb156 hg w4 hbox hb; have BK156 := Aside0.mk (hbox); have GW156 := gw_ HB hg; have GE156 := gw_ HB hg; replace HB := bs_ HB hb; clear hb hbox hg; obtain ⟨hcz5_0, hcz5_1, hcz5_2, hfz5_0, hfz5_1, hfz5_2⟩ := bc3_ BK156))
  go_ret
  exact ⟨er_, hb_ HB⟩
 ·rw [if_neg c3] at H
  have c3b0 : decide (a0 < a1_0) = false := decide_eq_false c3
  clear c3
  by_cases c6 : a0 < (wrap64 (a1_0 + (a1_1.size : Int)))
  ·rw [if_pos c6] at H
   have c6b0 : decide (a0 < (wrap64 (a1_0 + (a1_1.size : Int)))) = true := decide_eq_true c6
   clear c6
   obtain rfl := Option.some.inj H
   go_enter Try.func63, Try.ntmps63
   go_wp2_with (first | ((with_reducible refine gate_dst (N := 3) rfl ?_); refine be_ (N := 3) (cs := #[.int .i64 a1_0, .string a1_1, .string a1_2]) (t := 24) (h := ?_); intro gb156 hg w7 hbox hb; have BK156 := Aside0.mk (hbox); have GW156 := gw_ HB hg; have GE156 := gw_ HB hg; replace HB := bs_ HB hb; clear hb hbox hg; obtain ⟨hcz8_0, hcz8_1, hcz8_2, hfz8_0, hfz8_1, hfz8_2⟩ := bc3_ BK156))
   go_ret
   exact ⟨er_, hb_ HB⟩
  ·rw [if_neg c6] at H
   have c6b0 : decide (a0 < (wrap64 (a1_0 + (a1_1.size : Int)))) = false := decide_eq_false c6
   clear c6
   obtain rfl := Option.some.inj H
   go_enter Try.func63, Try.ntmps63
   go_wp2_with (first | ((with_reducible refine gate_dst (N := 3) rfl ?_); refine be_ (N := 3) (cs := #[.int .i64 a1_0, .string a1_1, .string a1_2]) (t := 24) (h := ?_); intro gb156 hg w9 hbox hb; have BK156 := Aside0.mk (hbox); have GW156 := gw_ HB hg; have GE156 := gw_ HB hg; replace HB := bs_ HB hb; clear hb hbox hg; obtain ⟨hcz10_0, hcz10_1, hcz10_2, hfz10_0, hfz10_1, hfz10_2⟩ := bc3_ BK156))
   go_ret
   exact ⟨er_, hb_ HB⟩

/-! ### change_Shift: function 19 -/
def change_Shift.l0 : Nat → Int → List (S24) → Int → Int → Option (Int)
 | 0, _, _, _, _ => none
 | k + 1, x0, x7, x8, x9 => if x9 < x8 then (if 0 ≤ x9 then (if x9 < (x7.length : Int) then ((change_shift.f x0 ((rd_T24 x7 x9).f0) ((rd_T24 x7 x9).f1) ((rd_T24 x7 x9).f2)).bind fun t159 => (change_Shift.l0 k t159 x7 x8 (wrap64 (x9 + 1)))) else (none)) else (none)) else (some x0)
def change_Shift.f (k : Nat) (a0 : Int) (l1 : List (S24)) : Option (Int) := change_Shift.l0 k a0 l1 (l1.length : Int) 0
theorem change_Shift.mono_l : ∀ k, (∀ y0 y1 y2 y3, LeO (change_Shift.l0 k y0 y1 y2 y3) (change_Shift.l0 (k + 1) y0 y1 y2 y3))
 | 0 => fun _ _ _ _ r h => by simp [change_Shift.l0] at h
 | k + 1 => by
  have ih0 := change_Shift.mono_l k
  ·intro y0 y1 y2 y3
   unfold change_Shift.l0
   repeat' first
   | (with_reducible exact ih0 _ _ _ _)
   | (with_reducible exact LeO.refl _)
   | (with_reducible exact LeO.none _)
   | (with_reducible refine LeO.ite ?_ ?_)
   | (with_reducible refine LeO.bind ?_ (fun _ => ?_))
   | exact ih0 _ _ _ _
   | exact LeO.none _
   | refine LeO.ite ?_ ?_
   | refine LeO.bind ?_ (fun _ => ?_)
theorem change_Shift.mono : ∀ a0 a1 k, LeO (change_Shift.f k a0 a1) (change_Shift.f (k + 1) a0 a1) := by
 intro a0 a1 k
 have ih0 := change_Shift.mono_l k
 unfold change_Shift.f
 repeat' first
   | (with_reducible exact ih0 _ _ _ _)
   | (with_reducible exact LeO.refl _)
   | (with_reducible exact LeO.none _)
   | (with_reducible refine LeO.ite ?_ ?_)
   | (with_reducible refine LeO.bind ?_ (fun _ => ?_))
   | exact ih0 _ _ _ _
   | exact LeO.none _
   | refine LeO.ite ?_ ?_
   | refine LeO.bind ?_ (fun _ => ?_)
set_option maxHeartbeats 8000000 in
set_option maxRecDepth 100000 in
theorem change_Shift.calls (k : Nat) (a0 : Int) (A1 : Option Addr) (c1 : Nat) (l1 : List (S24)) (r : Int) (w : World) (hr1 : Kd.C k24 w A1 l1.length l1) (hc1 : l1.length ≤ c1) (h : change_Shift.f k a0 l1 = some r) :
  Calls Try.prog 19 #[.int .i64 a0, .slice A1 l1.length c1] w fun e w' => e = .returned (.int .i64 r) ∧ Below w.heap.size w w' := by
 have hu24 := Try.underlying24
 have HR1 := Aside0.mk hr1
 have HC1 := Aside0.mk hc1
 clear hr1 hc1
 have HB := Aside0.mk (Below.refl w.heap.size w)
 have H : (change_Shift.l0 k a0 l1 (l1.length : Int) 0) = some r := h
 clear h
 have H' := Aside0.mk H
 clear H
 go_enter Try.func19, Try.ntmps19
 go_wp2
 go_loopg [0, 9] k (fun kq v0 v9 w' => ∃ (x0_1 : Int) (x9_1 : Int), v0 = .int .i64 x0_1 ∧ v9 = .int .i64 x9_1 ∧ Aside0 (change_Shift.l0 kq x0_1 l1 (l1.length : Int) x9_1 = some r) ∧ Aside0 (kq ≤ k) ∧ Aside0 (Below w.heap.size w w'))
 case atStart => exact ⟨(a0), (0), es_, es_, H', ⟨Nat.le_refl _⟩, ⟨hb_ HB⟩⟩
 case round =>
  clear H'
  obtain ⟨x0_1, x9_1, rfl, rfl, HA, HK1, HB⟩ := hrel
  cases gk with
  | zero => exact absurd HA.out (by simp [change_Shift.l0])
  | succ k1 =>
   have H := HA.out
   clear HA
   simp only [change_Shift.l0] at H
   by_cases c3 : x9_1 < (l1.length : Int)
   ·rw [if_pos c3] at H
    have c3b0 : decide (x9_1 < (l1.length : Int)) = true := decide_eq_true c3
    clear c3
    by_cases c4 : 0 ≤ x9_1
    ·rw [if_pos c4] at H
     have c4b0 : decide (0 ≤ x9_1) = true := decide_eq_true c4
     clear c4
     by_cases c5 : x9_1 < (l1.length : Int)
     ·rw [if_pos c5] at H
      have c5b0 : decide (x9_1 < (l1.length : Int)) = true := decide_eq_true c5
      clear c5
      replace H := Option.bind_eq_some_iff.mp H
      obtain ⟨t159, A60, H⟩ := H
      replace H : (change_Shift.l0 k1 t159 l1 (l1.length : Int) (wrap64 (x9_1 + 1))) = some r := H
      have A6 := Aside0.mk A60
      clear A60
      have H' := Aside0.mk H
      clear H
      have p157 : 0 ≤ (x9_1 : Int) := of_decide_eq_true as_
      have q157 : x9_1 < (l1.length : Int) := of_decide_eq_true as_
      obtain ⟨ad157, e157, hx157_0, hx157_1, hx157_2⟩ := at_T24b HR1 HB x9_1 p157 q157
      cases e157
      replace p157 := eq_true p157
      replace q157 := eq_true q157
      go_wp2_with (first | ((with_reducible refine gate_dst (N := 6) rfl ?_); refine be_ (N := 6) (cs := #[.int .i64 0, .string (⟨#[]⟩ : ByteArray), .string (⟨#[]⟩ : ByteArray)]) (t := 24) (h := ?_); intro gb158 hg w7 hbox hb; have BK158 := Aside0.mk (hbox); have GW158 := gw_ HB hg; have GE158 := gw_ HB hg; replace HB := bs_ HB hb; clear hb hbox hg; obtain ⟨hcz8_0, hcz8_1, hcz8_2, hfz8_0, hfz8_1, hfz8_2⟩ := bc3_ BK158) | ((with_reducible refine gate_callee (f := 63) rfl ?_); refine ge_ (some 15) rfl rfl Try.func63 (by kernel_rfl) rfl #[.int .i64 x0_1, .agg #[.int .i64 ((rd_T24 l1 x9_1).f0), .string ((rd_T24 l1 x9_1).f1), .string ((rd_T24 l1 x9_1).f2)]] rfl (h := ?_); (with_reducible refine (change_shift.calls x0_1 ((rd_T24 l1 x9_1).f0) ((rd_T24 l1 x9_1).f1) ((rd_T24 l1 x9_1).f2) t159 _ A6.out).mono ?_); rintro e w9 ⟨rfl, hb⟩; refine ⟨_, rfl, ?_⟩; replace BK158 := Aside0.mk (blk_below (g := gb158) (o := .cells #[.int .i64 ((rd_T24 l1 x9_1).f0), .string ((rd_T24 l1 x9_1).f1), .string ((rd_T24 l1 x9_1).f2)] 24 (0, 0)) (bp_ BK158.out) hb); replace HB := bs_ HB hb; (try clear hb); (try clear hb2); (try clear hk); (try clear hi)))
      go_roundg k1
      case measure => have := HK1.out; omega
      case rel => exact ⟨(t159), (wrap64 (x9_1 + 1)), es_, es_, H', ⟨by have := HK1.out; omega⟩, ⟨hb_ HB⟩⟩
     ·rw [if_neg c5] at H
      exact absurd H (by simp)
    ·rw [if_neg c4] at H
     exact absurd H (by simp)
   ·rw [if_neg c3] at H
    have c3b0 : decide (x9_1 < (l1.length : Int)) = false := decide_eq_false c3
    clear c3
    obtain rfl := Option.some.inj H
    go_wp2
    go_ret
    exact ⟨er_, hb_ HB⟩

end Go.Proofs.Ytkiokimpblimcaa.PBatchPlaces
