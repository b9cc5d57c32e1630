/- Of the law calamus/calamuslaw33.RecordWrites: each function as a plain Lean function, with a proof that the call comes to it; the row. By wip/tpl/own_print.py. Conditions: none but the row's own. -/
import Derived.Test.YtealbonfaebikaaORecordWritesx0
import Derived.Test.YtealbonfaebikaaORecordWritesx1
import Derived.Test.YtealbonfaebikaaORecordWritesx2
namespace Go.Proofs.Ytealbonfaebikaa.PRecordWrites
open Go.RowKit Go.Proofs.YtealbonfaebikaaW.PrintWords Go.Proofs.YtealbonfaebikaaW.PrintLast Go.Proofs.YtealbonfaebikaaW.PrintMore
attribute [local go_sem] max2_int min2_int max_two min_two max_three min_three max_four min_four   -- for this text's walks alone
set_option linter.unusedVariables false
set_option linter.unusedSimpArgs false

/-! ### code_Reader_fail: function 81 -/
def code_Reader_fail.f (s0_0 : ByteArray) (s0_1 : Int) (a1 : Int) : Option (ByteArray × Int) := if s0_1 = 0 then (some ((⟨#[]⟩ : ByteArray), a1)) else (some ((⟨#[]⟩ : ByteArray), s0_1))
set_option maxHeartbeats 8000000 in
set_option maxRecDepth 100000 in
theorem code_Reader_fail.calls (g : Nat) (s0_0 : ByteArray) (s0_1 : Int) (a1 : Int) (r1 : ByteArray) (r2 : Int) (w0 w : World) (hI : IsS91 w0 w g s0_0 s0_1) (hB : Below w0.heap.size w0 w) (h : code_Reader_fail.f s0_0 s0_1 a1 = some (r1, r2)) :
  Calls Try.prog 81 #[.pointer (some ⟨g, 0, none⟩), .int .i64 a1] w fun e w' => e = .returned (.tuple #[]) ∧ IsS91 w0 w' g r1 r2 ∧ Below w0.heap.size w0 w' ∧ KeepBut w w' g none := by
 have HI0 := Aside0.mk hI
 have HK := Aside0.mk (KeepBut.refl w g none)
 have HL := Aside0.mk hB.size
 clear hI
 have HW0 := Aside0.mk hB.size
 have HB := Aside0.mk hB
 clear hB
 have H : (if s0_1 = 0 then (some ((⟨#[]⟩ : ByteArray), a1)) else (some ((⟨#[]⟩ : ByteArray), s0_1))) = some (r1, r2) := h
 clear h
 by_cases c3 : s0_1 = 0
 ·rw [if_pos c3] at H
  have c3b0 : (s0_1 == 0) = true := beq_iff_eq.mpr c3
  have c3b1 : (s0_1 != 0) = false := bne_eq_false_iff_eq.mpr c3
  clear c3
  simp only [Option.some.injEq, Prod.mk.injEq] at H
  obtain ⟨rfl, rfl⟩ := H
  obtain ⟨HGz4, hgz4⟩ := HI0.out
  have hcz4_0 := cellS91_0 HGz4
  have hcz4_1 := cellS91_1 HGz4
  have hfz4_0 := blk_frozen HGz4 0
  have hfz4_1 := blk_frozen HGz4 1
  clear HGz4 hgz4
  go_enter Try.func81, Try.ntmps81
  go_wp2
  first | go_end0 | ((try simp only [Exit.inBlock, Exit.then]); refine bodyPost_ret (results_none rfl _ _ _) rfl ?_)
  exact ⟨er_, by repeat (first | (with_reducible first | exact HI0.out | apply IsS91.alloc | apply IsS91.drewN | apply IsS91.drew | apply IsS91.set_0 | apply IsS91.set_1) | exact HI0.out), by repeat (first | (with_reducible first | exact HB.out | apply below_alloc | apply pw_below_drewN | apply below_drew1 | refine below_set ?_ (IsS91.ge HI0.out)) | exact HB.out), by repeat (first | (with_reducible first | exact HK.out | apply KeepBut.set_ | apply keep_drewN | apply keep_drew | apply keep_alloc) | exact HK.out)⟩
 ·rw [if_neg c3] at H
  have c3b0 : (s0_1 == 0) = false := beq_eq_false_iff_ne.mpr c3
  have c3b1 : (s0_1 != 0) = true := bne_iff_ne.mpr c3
  simp only [Option.some.injEq, Prod.mk.injEq] at H
  obtain ⟨rfl, rfl⟩ := H
  obtain ⟨HGz5, hgz5⟩ := HI0.out
  have hcz5_0 := cellS91_0 HGz5
  have hcz5_1 := cellS91_1 HGz5
  have hfz5_0 := blk_frozen HGz5 0
  have hfz5_1 := blk_frozen HGz5 1
  clear HGz5 hgz5
  go_enter Try.func81, Try.ntmps81
  go_wp2
  first | go_end0 | ((try simp only [Exit.inBlock, Exit.then]); refine bodyPost_ret (results_none rfl _ _ _) rfl ?_)
  exact ⟨er_, by repeat (first | (with_reducible first | exact HI0.out | apply IsS91.alloc | apply IsS91.drewN | apply IsS91.drew | apply IsS91.set_0 | apply IsS91.set_1) | exact HI0.out), by repeat (first | (with_reducible first | exact HB.out | apply below_alloc | apply pw_below_drewN | apply below_drew1 | refine below_set ?_ (IsS91.ge HI0.out)) | exact HB.out), by repeat (first | (with_reducible first | exact HK.out | apply KeepBut.set_ | apply keep_drewN | apply keep_drew | apply keep_alloc) | exact HK.out)⟩

/-! ### code_Reader_take: function 79 -/
def code_Reader_take.f (s0_0 : ByteArray) (s0_1 : Int) (a1 : Int) : Option (ByteArray × Bool × ByteArray × Int) := if s0_1 = 0 then (if a1 > (s0_0.size : Int) then ((code_Reader_fail.f s0_0 s0_1 2).bind fun bt138 => (some ((⟨#[]⟩ : ByteArray), false, bt138.1, bt138.2))) else (if 0 ≤ a1 then (if a1 ≤ (s0_0.size : Int) then (some (s0_0.extract 0 (a1 : Int).toNat, true, s0_0.extract (a1 : Int).toNat s0_0.size, s0_1)) else (none)) else (none))) else (some ((⟨#[]⟩ : ByteArray), false, s0_0, s0_1))
set_option maxHeartbeats 8000000 in
set_option maxRecDepth 100000 in
theorem code_Reader_take.calls (g : Nat) (s0_0 : ByteArray) (s0_1 : Int) (a1 : Int) (r1 : ByteArray) (r2 : Bool) (r3 : ByteArray) (r4 : Int) (w0 w : World) (hI : IsS91 w0 w g s0_0 s0_1) (hB : Below w0.heap.size w0 w) (h : code_Reader_take.f s0_0 s0_1 a1 = some (r1, r2, r3, r4)) :
  Calls Try.prog 79 #[.pointer (some ⟨g, 0, none⟩), .int .i64 a1] w fun e w' => e = .returned (.tuple #[.string r1, .bool r2]) ∧ IsS91 w0 w' g r3 r4 ∧ Below w0.heap.size w0 w' ∧ KeepBut w w' g none := by
 have HI0 := Aside0.mk hI
 have HK := Aside0.mk (KeepBut.refl w g none)
 have HL := Aside0.mk hB.size
 clear hI
 have HW0 := Aside0.mk hB.size
 have HB := Aside0.mk hB
 clear hB
 have H : (if s0_1 = 0 then (if a1 > (s0_0.size : Int) then ((code_Reader_fail.f s0_0 s0_1 2).bind fun bt138 => (some ((⟨#[]⟩ : ByteArray), false, bt138.1, bt138.2))) else (if 0 ≤ a1 then (if a1 ≤ (s0_0.size : Int) then (some (s0_0.extract 0 (a1 : Int).toNat, true, s0_0.extract (a1 : Int).toNat s0_0.size, s0_1)) else (none)) else (none))) else (some ((⟨#[]⟩ : ByteArray), false, s0_0, s0_1))) = some (r1, r2, r3, r4) := h
 clear h
 by_cases c3 : s0_1 = 0
 ·rw [if_pos c3] at H
  have c3b0 : (s0_1 == 0) = true := beq_iff_eq.mpr c3
  have c3b1 : (s0_1 != 0) = false := bne_eq_false_iff_eq.mpr c3
  clear c3
  by_cases c4 : a1 > (s0_0.size : Int)
  ·rw [if_pos c4] at H
   have c4b0 : decide ((s0_0.size : Int) < a1) = true := decide_eq_true c4
   clear c4
   replace H := Option.bind_eq_some_iff.mp H
   obtain ⟨⟨t138, t139⟩, A50, H⟩ := H
   replace H : (some ((⟨#[]⟩ : ByteArray), false, t138, t139)) = some (r1, r2, r3, r4) := H
   have A5 := Aside0.mk A50
   clear A50
   simp only [Option.some.injEq, Prod.mk.injEq] at H
   obtain ⟨rfl, rfl, rfl, rfl⟩ := H
   obtain ⟨HGz6, hgz6⟩ := HI0.out
   have hcz6_0 := cellS91_0 HGz6
   have hcz6_1 := cellS91_1 HGz6
   have hfz6_0 := blk_frozen HGz6 0
   have hfz6_1 := blk_frozen HGz6 1
   clear HGz6 hgz6
   go_enter Try.func79, Try.ntmps79
   go_wp2_with (first | ((with_reducible refine gate_callee (f := 81) rfl ?_); refine ge_ (some 20) rfl rfl Try.func81 (by kernel_rfl) rfl #[.pointer (some ⟨g, 0, none⟩), .int .i64 2] rfl (h := ?_); (with_reducible refine (code_Reader_fail.calls g s0_0 s0_1 2 t138 t139 w0 _ ?side1 ?side2 A5.out).mono ?_); (case side1 => repeat (first | (with_reducible first | exact HI0.out | apply IsS91.alloc | apply IsS91.drewN | apply IsS91.drew | apply IsS91.set_0 | apply IsS91.set_1) | exact HI0.out)); (case side2 => repeat (first | (with_reducible first | exact HB.out | apply below_alloc | apply pw_below_drewN | apply below_drew1 | refine below_set ?_ (IsS91.ge HI0.out)) | exact HB.out)); rintro e w7 ⟨rfl, hi, hb, hk⟩; refine ⟨_, rfl, ?_⟩; replace HK := Aside0.mk (KeepBut.trans (by repeat (first | (with_reducible first | exact HK.out | apply KeepBut.set_ | apply keep_drewN | apply keep_drew | apply keep_alloc) | exact HK.out)) hk (.inl rfl)); replace HB := Aside0.mk (hb); replace HI0 := Aside0.mk (hi); (try clear hb); (try clear hb2); (try clear hk); (try clear hi)))
   go_ret2
   exact ⟨er_, by repeat (first | (with_reducible first | exact HI0.out | apply IsS91.alloc | apply IsS91.drewN | apply IsS91.drew | apply IsS91.set_0 | apply IsS91.set_1) | exact HI0.out), by repeat (first | (with_reducible first | exact HB.out | apply below_alloc | apply pw_below_drewN | apply below_drew1 | refine below_set ?_ (IsS91.ge HI0.out)) | exact HB.out), by repeat (first | (with_reducible first | exact HK.out | apply KeepBut.set_ | apply keep_drewN | apply keep_drew | apply keep_alloc) | exact HK.out)⟩
  ·rw [if_neg c4] at H
   have c4b0 : decide ((s0_0.size : Int) < a1) = false := decide_eq_false c4
   clear c4
   by_cases c8 : 0 ≤ a1
   ·rw [if_pos c8] at H
    have c8b0 := eq_true c8
    try (have c8b0x := c8b0; simp only [ByteArray.size_extract, Nat.min_self] at c8b0x)
    have c8b1 : decide (0 ≤ a1) = true := decide_eq_true c8
    clear c8
    by_cases c9 : a1 ≤ (s0_0.size : Int)
    ·rw [if_pos c9] at H
     have c9b0 := eq_true c9
     try (have c9b0x := c9b0; simp only [ByteArray.size_extract, Nat.min_self] at c9b0x)
     have c9b1 : decide (a1 ≤ (s0_0.size : Int)) = true := decide_eq_true c9
     clear c9
     have c10b0 := eq_true (of_decide_eq_true as_ : 0 ≤ a1)
     have c11b0 := eq_true (of_decide_eq_true as_ : a1 ≤ (s0_0.size : Int))
     simp only [Option.some.injEq, Prod.mk.injEq] at H
     obtain ⟨rfl, rfl, rfl, rfl⟩ := H
     obtain ⟨HGz12, hgz12⟩ := HI0.out
     have hcz12_0 := cellS91_0 HGz12
     have hcz12_1 := cellS91_1 HGz12
     have hfz12_0 := blk_frozen HGz12 0
     have hfz12_1 := blk_frozen HGz12 1
     clear HGz12 hgz12
     go_enter Try.func79, Try.ntmps79
     go_wp2
     go_ret2
     exact ⟨er_, by repeat (first | (with_reducible first | exact HI0.out | apply IsS91.alloc | apply IsS91.drewN | apply IsS91.drew | apply IsS91.set_0 | apply IsS91.set_1) | exact HI0.out), by repeat (first | (with_reducible first | exact HB.out | apply below_alloc | apply pw_below_drewN | apply below_drew1 | refine below_set ?_ (IsS91.ge HI0.out)) | exact HB.out), by repeat (first | (with_reducible first | exact HK.out | apply KeepBut.set_ | apply keep_drewN | apply keep_drew | apply keep_alloc) | exact HK.out)⟩
    ·rw [if_neg c9] at H
     exact absurd H (by simp)
   ·rw [if_neg c8] at H
    exact absurd H (by simp)
 ·rw [if_neg c3] at H
  have c3b0 : (s0_1 == 0) = false := beq_eq_false_iff_ne.mpr c3
  have c3b1 : (s0_1 != 0) = true := bne_iff_ne.mpr c3
  simp only [Option.some.injEq, Prod.mk.injEq] at H
  obtain ⟨rfl, rfl, rfl, rfl⟩ := H
  obtain ⟨HGz13, hgz13⟩ := HI0.out
  have hcz13_0 := cellS91_0 HGz13
  have hcz13_1 := cellS91_1 HGz13
  have hfz13_0 := blk_frozen HGz13 0
  have hfz13_1 := blk_frozen HGz13 1
  clear HGz13 hgz13
  go_enter Try.func79, Try.ntmps79
  go_wp2
  go_ret2
  exact ⟨er_, by repeat (first | (with_reducible first | exact HI0.out | apply IsS91.alloc | apply IsS91.drewN | apply IsS91.drew | apply IsS91.set_0 | apply IsS91.set_1) | exact HI0.out), by repeat (first | (with_reducible first | exact HB.out | apply below_alloc | apply pw_below_drewN | apply below_drew1 | refine below_set ?_ (IsS91.ge HI0.out)) | exact HB.out), by repeat (first | (with_reducible first | exact HK.out | apply KeepBut.set_ | apply keep_drewN | apply keep_drew | apply keep_alloc) | exact HK.out)⟩

/-! ### code_Reader_Num: function 54, by hand (code.Reader.Num.lean) -/
set_option maxHeartbeats 1000000 in
set_option maxRecDepth 100000 in
theorem code_Reader_Num_at (s : ByteArray) (i : Int) (b : Nat) (w : World) (h0 : 0 ≤ i) (h1 : i < s.size) (h3 : i ≤ 3) (hc : w.cell? ⟨b, 0, none⟩ = some (.string s)) :
  Calls Try.prog 80 #[.int .i64 i, .pointer (some ⟨b, 0, none⟩)] w fun e w' => e = .returned (.int .i64 (bt s i * 2 ^ (8 * i).toNat)) ∧ w = w' := by
 have hb := bt_at s i
 have hr := bt_range s i
 have hw : wrap64 (bt s i * 2 ^ (8 * i).toNat) = bt s i * 2 ^ (8 * i).toNat := by
  have h : i = 0 ∨ i = 1 ∨ i = 2 ∨ i = 3 := by omega
  rcases h with rfl | rfl | rfl | rfl <;> simp only [Int.reduceMul, Int.reduceToNat, Nat.reducePow, Int.reducePow] <;> unfold wrap64 <;> omega
 have HW := Aside0.mk hw
 clear hw
 go_enter Try.func80, Try.ntmps80
 go_wp2
 go_ret
 exact ⟨by show Ending.returned (.int .i64 (wrap64 (bt s i * 2 ^ (8 * i).toNat))) = _; rw [HW.out], rfl⟩

/-- A reader's number. -/
def num4 (s : ByteArray) : Int := bt s 0 + 256 * bt s 1 + 65536 * bt s 2 + 16777216 * bt s 3
def acc4 (s : ByteArray) : Nat → Int
 | 0 => 0
 | k + 1 => Go.bits .or .i64 (acc4 s k) (bt s (k : Int) * 2 ^ (8 * (k : Int)).toNat)
theorem or_low (i : Nat) (y x : Int) (hx0 : 0 ≤ x) (hx : x % 2 ^ i = 0) (hx1 : x < 2 ^ 32) (hy0 : 0 ≤ y) (hy : y < 2 ^ i) (hy1 : y < 2 ^ 32) : Go.bits .or .i64 y x = y + x := by
 obtain ⟨a, rfl⟩ := Int.eq_ofNat_of_zero_le hx0
 obtain ⟨b, rfl⟩ := Int.eq_ofNat_of_zero_le hy0
 have ha : a < 2 ^ 32 := by exact_mod_cast hx1
 have hb : b < 2 ^ 32 := by exact_mod_cast hy1
 have hk : ∀ n : Int, 0 ≤ n → n < 2 ^ 32 → IntKind.i64.wrap n = n := fun n h0 h1 => by
  rw [Go.IntKind.wrap_i64]; omega
 rw [(Go.bits_nat .i64 32 (by decide) hk b a hb ha).2, Nat.or_comm, ← (Go.bits_nat .i64 32 (by decide) hk a b ha hb).2,
  Go.bits_join .i64 32 (by decide) hk i _ _ hx0 hx hx1 hy0 hy hy1]
 omega
theorem acc4_num (s : ByteArray) : acc4 s 4 = num4 s := by
 have h0 := bt_range s 0
 have h1 := bt_range s 1
 have h2 := bt_range s 2
 have h3 := bt_range s 3
 unfold num4
 simp only [acc4, Nat.reduceAdd, Int.reduceMul, Int.reduceToNat, Nat.reducePow, Int.reducePow, Int.cast_ofNat_Int, Int.ofNat_eq_natCast]
 generalize bt s 0 = a at *
 generalize bt s 1 = b at *
 generalize bt s 2 = c at *
 generalize bt s 3 = d at *
 have e0 : Go.bits .or .i64 0 (a * 1) = a := by rw [or_low 0 0 (a * 1) (by omega) (by omega) (by omega) (by omega) (by omega) (by omega)]; omega
 rw [e0, or_low 8 a (b * 256) (by omega) (by omega) (by omega) (by omega) (by omega) (by omega), or_low 16 (a + b * 256) (c * 65536) (by omega) (by omega) (by omega) (by omega) (by omega) (by omega),
  or_low 24 (a + b * 256 + c * 65536) (d * 16777216) (by omega) (by omega) (by omega) (by omega) (by omega) (by omega)]
 omega

def code_Reader_Num.f (s0_0 : ByteArray) (s0_1 : Int) : Option (Int × ByteArray × Int) :=
 (code_Reader_take.f s0_0 s0_1 4).bind fun bt107 => if bt107.2.1 = true then (if bt107.1.size = 4 then (if num4 bt107.1 > 2147483647 then ((code_Reader_fail.f bt107.2.2.1 bt107.2.2.2 6).bind fun bt108 => some (0, bt108.1, bt108.2)) else some (num4 bt107.1, bt107.2.2.1, bt107.2.2.2)) else none) else some (0, bt107.2.2.1, bt107.2.2.2)

set_option maxHeartbeats 4000000 in
set_option maxRecDepth 100000 in
theorem code_Reader_Num.calls (g : Nat) (s0_0 : ByteArray) (s0_1 : Int) (r1 : Int) (r2 : ByteArray) (r3 : Int) (w0 w : World) (hI : IsS91 w0 w g s0_0 s0_1) (hB : Below w0.heap.size w0 w) (h : code_Reader_Num.f s0_0 s0_1 = some (r1, r2, r3)) :
  Calls Try.prog 54 #[.pointer (some ⟨g, 0, none⟩)] w fun e w' => e = .returned (.int .i64 r1) ∧ IsS91 w0 w' g r2 r3 ∧ Below w0.heap.size w0 w' ∧ KeepBut w w' g none := by
 unfold code_Reader_Num.f at h
 obtain ⟨⟨s, ok, t2, t3⟩, A1, H⟩ := Option.bind_eq_some_iff.mp h
 clear h
 simp only at H
 have HA := Aside0.mk A1
 have HIh := Aside0.mk hI
 have HBh := Aside0.mk hB
 clear A1 hI hB
 have hpe := fun (W : World) (p : Option Addr) => run_eql_pointer_nil (P := Try.prog) W 57 p (by kernel_rfl)
 cases ok with
 | false =>
  simp only [Bool.false_eq_true, if_false, Option.some.injEq, Prod.mk.injEq] at H
  obtain ⟨rfl, rfl, rfl⟩ := H
  go_enter Try.func54, Try.ntmps54
  go_wp2_with (go_at_call 79; refine (code_Reader_take.calls g s0_0 s0_1 4 s false _ _ w0 _ HIh.out HBh.out HA.out).mono ?_; rintro e w1 ⟨rfl, hi, hb, hk⟩)
  go_ret
  exact ⟨rfl, hi.alloc _, hb.alloc hb.size _, keep_alloc hk _⟩
 | true =>
  simp only [if_true] at H
  by_cases h4 : s.size = 4
  ·rw [if_pos h4] at H
   have hmax : s.size ≤ 4 ∧ 4 ≤ s.size := by omega
   clear h4
   by_cases hgt : num4 s > 2147483647
   ·rw [if_pos hgt] at H
    obtain ⟨⟨u1, u2⟩, A2, H⟩ := Option.bind_eq_some_iff.mp H
    simp only [Option.some.injEq, Prod.mk.injEq] at H
    obtain ⟨rfl, rfl, rfl⟩ := H
    have HA2 := Aside0.mk A2
    have hgb := Aside0.mk hgt
    clear A2 hgt
    go_enter Try.func54, Try.ntmps54
    go_wp2_with (go_at_call 79; refine (code_Reader_take.calls g s0_0 s0_1 4 s true _ _ w0 _ HIh.out HBh.out HA.out).mono ?_; rintro e w1 ⟨rfl, hi, hb, hk⟩)
    go_loop [6, 18] (fun n c => ∃ k : Nat, k ≤ 4 ∧ c = .int .i64 k ∧ n = .int .i64 (acc4 s k)) (fun _ c => 4 - (intOf c).toNat)
    case atStart => exact ⟨0, by omega, rfl, rfl⟩
    case round =>
     obtain ⟨k, hk4, rfl, rfl⟩ := hrel
     by_cases hlt : k < 4
     ·go_wp2_with (go_at_call 80; refine (code_Reader_Num_at s _ _ _ (by omega) (by omega) (by omega) (by simp)).mono ?_; rintro e w2 ⟨rfl, rfl⟩)
      go_round
      case rel => exact ⟨k + 1, by omega, by go_num, rfl⟩
      case measure => simp [intOf]; omega
     ·obtain rfl : k = 4 := by omega
      have hd : decide (2147483647 < acc4 s 4) = true := by rw [acc4_num]; exact decide_eq_true hgb.out
      go_wp2_with (go_at_call 81; refine (code_Reader_fail.calls g _ _ 6 _ _ w0 _ (hi.alloc _) (hb.alloc hb.size _) HA2.out).mono ?_; rintro e w2 ⟨rfl, hi2, hb2, hk2⟩)
      go_ret
      exact ⟨rfl, hi2, hb2, KeepBut.trans (keep_alloc hk _) hk2 (.inl rfl)⟩
   ·rw [if_neg hgt] at H
    simp only [Option.some.injEq, Prod.mk.injEq] at H
    obtain ⟨rfl, rfl, rfl⟩ := H
    have hgb := Aside0.mk hgt
    clear hgt
    go_enter Try.func54, Try.ntmps54
    go_wp2_with (go_at_call 79; refine (code_Reader_take.calls g s0_0 s0_1 4 s true _ _ w0 _ HIh.out HBh.out HA.out).mono ?_; rintro e w1 ⟨rfl, hi, hb, hk⟩)
    go_loop [6, 18] (fun n c => ∃ k : Nat, k ≤ 4 ∧ c = .int .i64 k ∧ n = .int .i64 (acc4 s k)) (fun _ c => 4 - (intOf c).toNat)
    case atStart => exact ⟨0, by omega, rfl, rfl⟩
    case round =>
     obtain ⟨k, hk4, rfl, rfl⟩ := hrel
     by_cases hlt : k < 4
     ·go_wp2_with (go_at_call 80; refine (code_Reader_Num_at s _ _ _ (by omega) (by omega) (by omega) (by simp)).mono ?_; rintro e w2 ⟨rfl, rfl⟩)
      go_round
      case rel => exact ⟨k + 1, by omega, by go_num, rfl⟩
      case measure => simp [intOf]; omega
     ·obtain rfl : k = 4 := by omega
      have hd : decide (2147483647 < acc4 s 4) = false := by rw [acc4_num]; exact decide_eq_false (Int.not_lt.2 hgb.out)
      go_wp2
      go_ret
      exact ⟨by show Ending.returned (.int .i64 (acc4 s 4)) = _; rw [acc4_num], hi.alloc _, hb.alloc hb.size _, keep_alloc hk _⟩
  ·rw [if_neg h4] at H; exact absurd H (by simp)

/-! ### code_Reader_Err: function 55 -/
def code_Reader_Err.f (s0_0 : ByteArray) (s0_1 : Int) : Option (Int × ByteArray × Int) := some (s0_1, s0_0, s0_1)
set_option maxHeartbeats 8000000 in
set_option maxRecDepth 100000 in
theorem code_Reader_Err.calls (g : Nat) (s0_0 : ByteArray) (s0_1 : Int) (r1 : Int) (r2 : ByteArray) (r3 : Int) (w0 w : World) (hI : IsS91 w0 w g s0_0 s0_1) (hB : Below w0.heap.size w0 w) (h : code_Reader_Err.f s0_0 s0_1 = some (r1, r2, r3)) :
  Calls Try.prog 55 #[.pointer (some ⟨g, 0, none⟩)] w fun e w' => e = .returned (.int .i64 r1) ∧ IsS91 w0 w' g r2 r3 ∧ Below w0.heap.size w0 w' ∧ KeepBut w w' g none := by
 have hpn57 := fun (W : World) (p : Option Addr) => run_eql_pointer_nil (P := Try.prog) W 57 p (by kernel_rfl)
 have HI0 := Aside0.mk hI
 have HK := Aside0.mk (KeepBut.refl w g none)
 have HL := Aside0.mk hB.size
 clear hI
 have HW0 := Aside0.mk hB.size
 have HB := Aside0.mk hB
 clear hB
 have H : (some (s0_1, s0_0, s0_1)) = some (r1, r2, r3) := h
 clear h
 simp only [Option.some.injEq, Prod.mk.injEq] at H
 obtain ⟨rfl, rfl, rfl⟩ := H
 obtain ⟨HGz2, hgz2⟩ := HI0.out
 have hcz2_0 := cellS91_0 HGz2
 have hcz2_1 := cellS91_1 HGz2
 have hfz2_0 := blk_frozen HGz2 0
 have hfz2_1 := blk_frozen HGz2 1
 clear HGz2 hgz2
 go_enter Try.func55, Try.ntmps55
 go_wp2
 go_ret
 exact ⟨er_, by repeat (first | (with_reducible first | exact HI0.out | apply IsS91.alloc | apply IsS91.drewN | apply IsS91.drew | apply IsS91.set_0 | apply IsS91.set_1) | exact HI0.out), by repeat (first | (with_reducible first | exact HB.out | apply below_alloc | apply pw_below_drewN | apply below_drew1 | refine below_set ?_ (IsS91.ge HI0.out)) | exact HB.out), by repeat (first | (with_reducible first | exact HK.out | apply KeepBut.set_ | apply keep_drewN | apply keep_drew | apply keep_alloc) | exact HK.out)⟩

/-! ### record_Told: function 18 -/
mutual
def record_Told.j0 : Nat → Bool → Int → Int → Int → ByteArray → Option (Int × Int × Bool)
 | 0, _, _, _, _, _ => none
 | k + 1, x11, x141000, x141001, x141002, x141003 => if x11 = true then (if 0 < (x141003.size : Int) then (some (bt x141003 0, 0, true)) else (none)) else (if x141000 = 2 then (record_Told.j1 k ((x141003.size : Int) == 5) x141000 x141001 x141002 x141003) else (record_Told.j1 k false x141000 x141001 x141002 x141003))
def record_Told.j1 : Nat → Bool → Int → Int → Int → ByteArray → Option (Int × Int × Bool)
 | 0, _, _, _, _, _ => none
 | k + 1, x24, x141000, x141001, x141002, x141003 => if x24 = true then (if 1 ≤ (x141003.size : Int) then ((code_NewReader.f (x141003.extract 1 x141003.size)).bind fun bt142 => ((code_Reader_Num.f bt142.1 bt142.2).bind fun bt145 => ((code_Reader_Err.f bt145.2.1 bt145.2.2).bind fun bt148 => (if bt148.1 = 0 then (if bt145.1 ≤ 18 then (if 0 < (x141003.size : Int) then (some (bt x141003 0, bt145.1, true)) else (none)) else (some (0, 0, false))) else (some (0, 0, false)))))) else (none)) else (some (0, 0, false))
end
def record_Told.f (k : Nat) (a0_0 : Int) (a0_1 : Int) (a0_2 : Int) (a0_3 : ByteArray) : Option (Int × Int × Bool) := (record_Right.f a0_0 a0_1 a0_2 a0_3).bind fun t141 => (if t141 = true then (if a0_0 = 1 then (record_Told.j0 k ((a0_3.size : Int) == 1) a0_0 a0_1 a0_2 a0_3) else (record_Told.j0 k false a0_0 a0_1 a0_2 a0_3)) else (some (0, 0, false)))
theorem record_Told.mono_l : ∀ k, (∀ y0 y1 y2 y3 y4, LeO (record_Told.j0 k y0 y1 y2 y3 y4) (record_Told.j0 (k + 1) y0 y1 y2 y3 y4)) ∧ (∀ y0 y1 y2 y3 y4, LeO (record_Told.j1 k y0 y1 y2 y3 y4) (record_Told.j1 (k + 1) y0 y1 y2 y3 y4))
 | 0 => ⟨fun _ _ _ _ _ r h => by simp [record_Told.j0] at h, fun _ _ _ _ _ r h => by simp [record_Told.j1] at h⟩
 | k + 1 => by
  obtain ⟨ih0, ih1⟩ := record_Told.mono_l k
  refine ⟨?_, ?_⟩
  ·intro y0 y1 y2 y3 y4
   unfold record_Told.j0
   repeat' first
   | (with_reducible exact ih0 _ _ _ _ _)
   | (with_reducible exact ih1 _ _ _ _ _)
   | (with_reducible exact LeO.refl _)
   | (with_reducible exact LeO.none _)
   | (with_reducible refine LeO.ite ?_ ?_)
   | (with_reducible refine LeO.bind ?_ (fun _ => ?_))
   | exact ih0 _ _ _ _ _
   | exact ih1 _ _ _ _ _
   | exact LeO.none _
   | refine LeO.ite ?_ ?_
   | refine LeO.bind ?_ (fun _ => ?_)
  ·intro y0 y1 y2 y3 y4
   unfold record_Told.j1
   repeat' first
   | (with_reducible exact ih0 _ _ _ _ _)
   | (with_reducible exact ih1 _ _ _ _ _)
   | (with_reducible exact LeO.refl _)
   | (with_reducible exact LeO.none _)
   | (with_reducible refine LeO.ite ?_ ?_)
   | (with_reducible refine LeO.bind ?_ (fun _ => ?_))
   | exact ih0 _ _ _ _ _
   | exact ih1 _ _ _ _ _
   | exact LeO.none _
   | refine LeO.ite ?_ ?_
   | refine LeO.bind ?_ (fun _ => ?_)
theorem record_Told.mono : ∀ a0 a1 a2 a3 k, LeO (record_Told.f k a0 a1 a2 a3) (record_Told.f (k + 1) a0 a1 a2 a3) := by
 intro a0 a1 a2 a3 k
 obtain ⟨ih0, ih1⟩ := record_Told.mono_l k
 unfold record_Told.f
 repeat' first
   | (with_reducible exact ih0 _ _ _ _ _)
   | (with_reducible exact ih1 _ _ _ _ _)
   | (with_reducible exact LeO.refl _)
   | (with_reducible exact LeO.none _)
   | (with_reducible refine LeO.ite ?_ ?_)
   | (with_reducible refine LeO.bind ?_ (fun _ => ?_))
   | exact ih0 _ _ _ _ _
   | exact ih1 _ _ _ _ _
   | exact LeO.none _
   | refine LeO.ite ?_ ?_
   | refine LeO.bind ?_ (fun _ => ?_)
set_option maxHeartbeats 8000000 in
set_option maxRecDepth 100000 in
theorem record_Told.calls (k : Nat) (a0_0 : Int) (a0_1 : Int) (a0_2 : Int) (a0_3 : ByteArray) (r1 : Int) (r2 : Int) (r3 : Bool) (w : World) (h : record_Told.f k a0_0 a0_1 a0_2 a0_3 = some (r1, r2, r3)) :
  Calls Try.prog 18 #[.agg #[.int .i64 a0_0, .int .i64 a0_1, .int .i64 a0_2, .string a0_3]] w fun e w' => e = .returned (.tuple #[.int .u8 r1, .int .i64 r2, .bool r3]) ∧ Below w.heap.size w w' := by
 have hu24 := Try.underlying24
 have HB := Aside0.mk (Below.refl w.heap.size w)
 have H : ((record_Right.f a0_0 a0_1 a0_2 a0_3).bind fun t141 => (if t141 = true then (if a0_0 = 1 then (record_Told.j0 k ((a0_3.size : Int) == 1) a0_0 a0_1 a0_2 a0_3) else (record_Told.j0 k false a0_0 a0_1 a0_2 a0_3)) else (some (0, 0, false)))) = some (r1, r2, r3) := h
 clear h
 replace H := Option.bind_eq_some_iff.mp H
 obtain ⟨t141, A20, H⟩ := H
 replace H : (if t141 = true then (if a0_0 = 1 then (record_Told.j0 k ((a0_3.size : Int) == 1) a0_0 a0_1 a0_2 a0_3) else (record_Told.j0 k false a0_0 a0_1 a0_2 a0_3)) else (some (0, 0, false))) = some (r1, r2, r3) := H
 have A2 := Aside0.mk A20
 clear A20
 by_cases c3 : t141 = true
 ·subst c3
  have H1 : (if a0_0 = 1 then (record_Told.j0 k ((a0_3.size : Int) == 1) a0_0 a0_1 a0_2 a0_3) else (record_Told.j0 k false a0_0 a0_1 a0_2 a0_3)) = some (r1, r2, r3) := by rw [if_pos rfl] at H; exact H
  clear H
  have H := H1
  clear H1
  have HC4 := Aside0.mk H
  clear H
  go_enter Try.func18, Try.ntmps18
  go_upto_region 2 with (first | ((with_reducible refine gate_dst (N := 1) rfl ?_); (try (refine gate_guard (by rfl) ?_; dsimp only)); refine be_ (N := 1) (cs := #[.int .i64 a0_0, .int .i64 a0_1, .int .i64 a0_2, .string a0_3]) (t := 24) (h := ?_); intro gb140 hg w5 hbox hb; have BK140 := Aside0.mk (hbox); have GW140 := gw_ HB hg; have GE140 := gw_ HB hg; replace HB := bs_ HB hb; clear hb hbox hg; obtain ⟨hcz6_0, hcz6_1, hcz6_2, hcz6_3, hfz6_0, hfz6_1, hfz6_2, hfz6_3⟩ := bc4_ BK140) | ((with_reducible refine gate_callee (f := 20) rfl ?_); refine ge_ (some 9) rfl rfl Try.func20 (by kernel_rfl) rfl #[.agg #[.int .i64 a0_0, .int .i64 a0_1, .int .i64 a0_2, .string a0_3]] rfl (h := ?_); (with_reducible refine (record_Right.calls a0_0 a0_1 a0_2 a0_3 true _ A2.out).mono ?_); rintro e w7 ⟨rfl, hb⟩; refine ⟨_, rfl, ?_⟩; replace BK140 := bb_ BK140 hb; replace HB := bs_ HB hb; (try clear hb); (try clear hb2); (try clear hk); (try clear hi)))
  (try simp only [Act.put, List.setIfInBounds_toArray, List.set_cons_zero, List.set_cons_succ])
  go_cut [11] (fun v11 wc => ∃ (kq : Nat) (x11_3 : Bool), v11 = .bool x11_3 ∧ Aside0 (record_Told.j0 kq x11_3 a0_0 a0_1 a0_2 a0_3 = some (r1, r2, r3)) ∧ Aside0 (kq ≤ k) ∧ Aside0 (wc.heap[gb140]? = some (.cells #[.int .i64 a0_0, .int .i64 a0_1, .int .i64 a0_2, .string a0_3] 24 (0, 0))) ∧ Aside0 (Below w.heap.size w wc))
  case first =>
   have H := HC4.out
   clear HC4
   by_cases c8 : a0_0 = 1
   ·rw [if_pos c8] at H
    have c8b0 : (a0_0 == 1) = true := beq_iff_eq.mpr c8
    have c8b1 : (a0_0 != 1) = false := bne_eq_false_iff_eq.mpr c8
    clear c8
    (first | rw [c8b0] | (simp only [i64_w, i32_w]; rw [c8b0]) | skip)
    have H' := Aside0.mk H
    clear H
    obtain ⟨hcz9_0, hcz9_1, hcz9_2, hcz9_3, hfz9_0, hfz9_1, hfz9_2, hfz9_3⟩ := bc4_ BK140
    go_wp2
    go_meet
    case rel => exact ⟨_, (((a0_3.size : Int) == 1)), es_, H', ⟨by first | omega | exact Nat.le_refl _⟩, ⟨bw_ BK140.out⟩, ⟨hb_ HB⟩⟩
   ·rw [if_neg c8] at H
    have c8b0 : (a0_0 == 1) = false := beq_eq_false_iff_ne.mpr c8
    have c8b1 : (a0_0 != 1) = true := bne_iff_ne.mpr c8
    (first | rw [c8b0] | (simp only [i64_w, i32_w]; rw [c8b0]) | skip)
    have H' := Aside0.mk H
    clear H
    obtain ⟨hcz10_0, hcz10_1, hcz10_2, hcz10_3, hfz10_0, hfz10_1, hfz10_2, hfz10_3⟩ := bc4_ BK140
    go_wp2
    go_meet
    case rel => exact ⟨_, (false), es_, H', ⟨by first | omega | exact Nat.le_refl _⟩, ⟨bw_ BK140.out⟩, ⟨hb_ HB⟩⟩
  case rest =>
   clear HC4
   try clear c3
   try clear hcz6_0
   try clear hcz6_1
   try clear hcz6_2
   try clear hcz6_3
   try clear hfz6_0
   try clear hfz6_1
   try clear hfz6_2
   try clear hfz6_3
   obtain ⟨kq, x11_3, rfl, HA, HJ3, BK140, HB⟩ := hcut
   cases kq with
   | zero => exact absurd HA.out (by simp [record_Told.j0])
   | succ kj3 =>
    have H := HA.out
    clear HA
    simp only [record_Told.j0] at H
    by_cases c11 : x11_3 = true
    ·subst c11
     have H1 : (if 0 < (a0_3.size : Int) then (some (bt a0_3 0, 0, true)) else (none)) = some (r1, r2, r3) := by rw [if_pos rfl] at H; exact H
     clear H
     have H := H1
     clear H1
     by_cases c12 : 0 < (a0_3.size : Int)
     ·rw [if_pos c12] at H
      have c12b0 : decide (0 < (a0_3.size : Int)) = true := decide_eq_true c12
      have c12b1 : decide (0 < a0_3.size) = true := decide_eq_true (by omega)
      clear c12
      simp only [Option.some.injEq, Prod.mk.injEq] at H
      obtain ⟨rfl, rfl, rfl⟩ := H
      obtain ⟨hcz14_0, hcz14_1, hcz14_2, hcz14_3, hfz14_0, hfz14_1, hfz14_2, hfz14_3⟩ := bc4_ BK140
      have p13 : 0 ≤ (0 : Int) := (by omega)
      have q13 : 0 < a0_3.size := (by have : (0 : Int) < (a0_3.size : Int) := of_decide_eq_true as_; omega)
      have hx13 : ∀ h : 0 < a0_3.size, ((a0_3[0]'h).toNat : Int) = bt a0_3 0 := bt_at a0_3 0
      clear p13
      have qi13 : (0 < (a0_3.size : Int)) = True := eq_true (of_decide_eq_true as_)
      replace q13 := eq_true q13
      go_wp2
      go_ret3
      exact ⟨er_, hb_ HB⟩
     ·rw [if_neg c12] at H
      exact absurd H (by simp)
    ·replace c11 := Bool.eq_false_iff.mpr c11
     subst c11
     have H1 : (if a0_0 = 2 then (record_Told.j1 kj3 ((a0_3.size : Int) == 5) a0_0 a0_1 a0_2 a0_3) else (record_Told.j1 kj3 false a0_0 a0_1 a0_2 a0_3)) = some (r1, r2, r3) := by rw [if_neg (show ¬ (false = true) by decide)] at H; exact H
     clear H
     have H := H1
     clear H1
     have HC15 := Aside0.mk H
     clear H
     go_upto_region 4 with (fail)
     go_cut [24] (fun v24 wc => ∃ (kq : Nat) (x24_14 : Bool), v24 = .bool x24_14 ∧ Aside0 (record_Told.j1 kq x24_14 a0_0 a0_1 a0_2 a0_3 = some (r1, r2, r3)) ∧ Aside0 (kq ≤ kj3) ∧ Aside0 (wc.heap[gb140]? = some (.cells #[.int .i64 a0_0, .int .i64 a0_1, .int .i64 a0_2, .string a0_3] 24 (0, 0))) ∧ Aside0 (Below w.heap.size w wc))
     case first =>
      have H := HC15.out
      clear HC15
      by_cases c16 : a0_0 = 2
      ·rw [if_pos c16] at H
       have c16b0 : (a0_0 == 2) = true := beq_iff_eq.mpr c16
       have c16b1 : (a0_0 != 2) = false := bne_eq_false_iff_eq.mpr c16
       clear c16
       (first | rw [c16b0] | (simp only [i64_w, i32_w]; rw [c16b0]) | skip)
       have H' := Aside0.mk H
       clear H
       obtain ⟨hcz17_0, hcz17_1, hcz17_2, hcz17_3, hfz17_0, hfz17_1, hfz17_2, hfz17_3⟩ := bc4_ BK140
       go_wp2
       go_meet
       case rel => exact ⟨_, (((a0_3.size : Int) == 5)), es_, H', ⟨by have := HJ3.out; first | omega | exact Nat.le_refl _⟩, ⟨bw_ BK140.out⟩, ⟨hb_ HB⟩⟩
      ·rw [if_neg c16] at H
       have c16b0 : (a0_0 == 2) = false := beq_eq_false_iff_ne.mpr c16
       have c16b1 : (a0_0 != 2) = true := bne_iff_ne.mpr c16
       (first | rw [c16b0] | (simp only [i64_w, i32_w]; rw [c16b0]) | skip)
       have H' := Aside0.mk H
       clear H
       obtain ⟨hcz18_0, hcz18_1, hcz18_2, hcz18_3, hfz18_0, hfz18_1, hfz18_2, hfz18_3⟩ := bc4_ BK140
       go_wp2
       go_meet
       case rel => exact ⟨_, (false), es_, H', ⟨by have := HJ3.out; first | omega | exact Nat.le_refl _⟩, ⟨bw_ BK140.out⟩, ⟨hb_ HB⟩⟩
     case rest =>
      clear HC15
      try clear c3
      try clear c11
      try clear hcz6_0
      try clear hcz6_1
      try clear hcz6_2
      try clear hcz6_3
      try clear hfz6_0
      try clear hfz6_1
      try clear hfz6_2
      try clear hfz6_3
      obtain ⟨kq, x24_14, rfl, HA, HJ14, BK140, HB⟩ := hcut
      cases kq with
      | zero => exact absurd HA.out (by simp [record_Told.j1])
      | succ kj14 =>
       have H := HA.out
       clear HA
       simp only [record_Told.j1] at H
       by_cases c19 : x24_14 = true
       ·subst c19
        have H1 : (if 1 ≤ (a0_3.size : Int) then ((code_NewReader.f (a0_3.extract 1 a0_3.size)).bind fun bt142 => ((code_Reader_Num.f bt142.1 bt142.2).bind fun bt145 => ((code_Reader_Err.f bt145.2.1 bt145.2.2).bind fun bt148 => (if bt148.1 = 0 then (if bt145.1 ≤ 18 then (if 0 < (a0_3.size : Int) then (some (bt a0_3 0, bt145.1, true)) else (none)) else (some (0, 0, false))) else (some (0, 0, false)))))) else (none)) = some (r1, r2, r3) := by rw [if_pos rfl] at H; exact H
        clear H
        have H := H1
        clear H1
        by_cases c20 : 1 ≤ (a0_3.size : Int)
        ·rw [if_pos c20] at H
         have c20b0 := eq_true c20
         try (have c20b0x := c20b0; simp only [ByteArray.size_extract, Nat.min_self] at c20b0x)
         have c20b1 : decide (1 ≤ (a0_3.size : Int)) = true := decide_eq_true c20
         clear c20
         replace H := Option.bind_eq_some_iff.mp H
         obtain ⟨⟨t142, t143⟩, A210, H⟩ := H
         replace H : ((code_Reader_Num.f t142 t143).bind fun bt145 => ((code_Reader_Err.f bt145.2.1 bt145.2.2).bind fun bt148 => (if bt148.1 = 0 then (if bt145.1 ≤ 18 then (if 0 < (a0_3.size : Int) then (some (bt a0_3 0, bt145.1, true)) else (none)) else (some (0, 0, false))) else (some (0, 0, false))))) = some (r1, r2, r3) := H
         have A21 := Aside0.mk A210
         clear A210
         replace H := Option.bind_eq_some_iff.mp H
         obtain ⟨⟨t145, t146, t147⟩, A220, H⟩ := H
         replace H : ((code_Reader_Err.f t146 t147).bind fun bt148 => (if bt148.1 = 0 then (if t145 ≤ 18 then (if 0 < (a0_3.size : Int) then (some (bt a0_3 0, t145, true)) else (none)) else (some (0, 0, false))) else (some (0, 0, false)))) = some (r1, r2, r3) := H
         have A22 := Aside0.mk A220
         clear A220
         replace H := Option.bind_eq_some_iff.mp H
         obtain ⟨⟨t148, t149, t150⟩, A230, H⟩ := H
         replace H : (if t148 = 0 then (if t145 ≤ 18 then (if 0 < (a0_3.size : Int) then (some (bt a0_3 0, t145, true)) else (none)) else (some (0, 0, false))) else (some (0, 0, false))) = some (r1, r2, r3) := H
         have A23 := Aside0.mk A230
         clear A230
         by_cases c24 : t148 = 0
         ·rw [if_pos c24] at H
          have c24b0 : (t148 == 0) = true := beq_iff_eq.mpr c24
          have c24b1 : (t148 != 0) = false := bne_eq_false_iff_eq.mpr c24
          clear c24
          by_cases c25 : t145 ≤ 18
          ·rw [if_pos c25] at H
           have c25b0 : decide (t145 ≤ 18) = true := decide_eq_true c25
           clear c25
           by_cases c26 : 0 < (a0_3.size : Int)
           ·rw [if_pos c26] at H
            have c26b0 : decide (0 < (a0_3.size : Int)) = true := decide_eq_true c26
            have c26b1 : decide (0 < a0_3.size) = true := decide_eq_true (by omega)
            clear c26
            simp only [Option.some.injEq, Prod.mk.injEq] at H
            obtain ⟨rfl, rfl, rfl⟩ := H
            obtain ⟨hcz28_0, hcz28_1, hcz28_2, hcz28_3, hfz28_0, hfz28_1, hfz28_2, hfz28_3⟩ := bc4_ BK140
            go_wp2_with (first | ((with_reducible refine gate_callee (f := 31) rfl ?_); refine ge_ (some 37) rfl rfl Try.func31 (by kernel_rfl) rfl #[.string (a0_3.extract 1 a0_3.size)] rfl (h := ?_); (with_reducible refine (code_NewReader.calls (a0_3.extract 1 a0_3.size) t142 t143 w _ ?side1 A21.out).mono ?_); (case side1 => repeat (first | (with_reducible first | exact HB.out | apply below_alloc | apply pw_below_drewN | apply below_drew1 | refine below_set ?_ GE140.out) | exact HB.out)); rintro e w29 ⟨g144, rfl, hi, hb, hb2⟩; refine ⟨_, rfl, ?_⟩; have HI144 := Aside0.mk (hi); have NB144_140 := Aside0.mk (IsS91.ne_blk hi (blk_below (g := gb140) (o := .cells #[.int .i64 a0_0, .int .i64 a0_1, .int .i64 a0_2, .string a0_3] 24 (0, 0)) (bw_ BK140.out) hb2) (by decide)); have NB140_144 := Aside0.mk (Ne.symm (IsS91.ne_blk hi (blk_below (g := gb140) (o := .cells #[.int .i64 a0_0, .int .i64 a0_1, .int .i64 a0_2, .string a0_3] 24 (0, 0)) (bw_ BK140.out) hb2) (by decide))); replace BK140 := Aside0.mk (blk_below (g := gb140) (o := .cells #[.int .i64 a0_0, .int .i64 a0_1, .int .i64 a0_2, .string a0_3] 24 (0, 0)) (bw_ BK140.out) hb2); replace HB := Aside0.mk (hb); (try clear hb); (try clear hb2); (try clear hk); (try clear hi)) | ((with_reducible refine gate_callee (f := 54) rfl ?_); refine ge_ (some 39) rfl rfl Try.func54 (by kernel_rfl) rfl #[.pointer (some ⟨g144, 0, none⟩)] rfl (h := ?_); (with_reducible refine (code_Reader_Num.calls g144 t142 t143 t145 t146 t147 w _ ?side1 ?side2 A22.out).mono ?_); (case side1 => repeat (first | (with_reducible first | exact HI144.out | apply IsS91.alloc | apply IsS91.drewN | apply IsS91.drew | apply IsS91.set_0 | apply IsS91.set_1 | refine IsS91.far ?_ NB144_140.out _) | exact HI144.out)); (case side2 => repeat (first | (with_reducible first | exact HB.out | apply below_alloc | apply pw_below_drewN | apply below_drew1 | refine below_set ?_ (IsS91.ge HI144.out) | refine below_set ?_ GE140.out) | exact HB.out)); rintro e w30 ⟨rfl, hi, hb, hk⟩; refine ⟨_, rfl, ?_⟩; replace BK140 := Aside0.mk (KeepBut.blk hk (g' := gb140) (o := .cells #[.int .i64 a0_0, .int .i64 a0_1, .int .i64 a0_2, .string a0_3] 24 (0, 0)) (bw_ BK140.out) NB140_144.out (by simp)); replace HB := Aside0.mk (hb); replace HI144 := Aside0.mk (hi); (try clear hb); (try clear hb2); (try clear hk); (try clear hi)) | ((with_reducible refine gate_callee (f := 55) rfl ?_); refine ge_ (some 41) rfl rfl Try.func55 (by kernel_rfl) rfl #[.pointer (some ⟨g144, 0, none⟩)] rfl (h := ?_); (with_reducible refine (code_Reader_Err.calls g144 t146 t147 t148 t149 t150 w _ ?side1 ?side2 A23.out).mono ?_); (case side1 => repeat (first | (with_reducible first | exact HI144.out | apply IsS91.alloc | apply IsS91.drewN | apply IsS91.drew | apply IsS91.set_0 | apply IsS91.set_1 | refine IsS91.far ?_ NB144_140.out _) | exact HI144.out)); (case side2 => repeat (first | (with_reducible first | exact HB.out | apply below_alloc | apply pw_below_drewN | apply below_drew1 | refine below_set ?_ (IsS91.ge HI144.out) | refine below_set ?_ GE140.out) | exact HB.out)); rintro e w31 ⟨rfl, hi, hb, hk⟩; refine ⟨_, rfl, ?_⟩; replace BK140 := Aside0.mk (KeepBut.blk hk (g' := gb140) (o := .cells #[.int .i64 a0_0, .int .i64 a0_1, .int .i64 a0_2, .string a0_3] 24 (0, 0)) (bw_ BK140.out) NB140_144.out (by simp)); replace HB := Aside0.mk (hb); replace HI144 := Aside0.mk (hi); (try clear hb); (try clear hb2); (try clear hk); (try clear hi); have hnb32 := NB140_144.out; have hnc32 := NB144_140.out; obtain ⟨hcz33_0, hcz33_1, hcz33_2, hcz33_3, hfz33_0, hfz33_1, hfz33_2, hfz33_3⟩ := bc4_ BK140; have p27 : 0 ≤ (0 : Int) := (by omega); have q27 : 0 < a0_3.size := (by have : (0 : Int) < (a0_3.size : Int) := of_decide_eq_true as_; omega); have hx27 : ∀ h : 0 < a0_3.size, ((a0_3[0]'h).toNat : Int) = bt a0_3 0 := bt_at a0_3 0; clear p27; have qi27 : (0 < (a0_3.size : Int)) = True := eq_true (of_decide_eq_true as_); replace q27 := eq_true q27))
            go_ret3
            exact ⟨er_, by repeat (first | (with_reducible first | exact HB.out | apply below_alloc | apply pw_below_drewN | apply below_drew1 | refine below_set ?_ (IsS91.ge HI144.out) | refine below_set ?_ GE140.out) | exact HB.out)⟩
           ·rw [if_neg c26] at H
            exact absurd H (by simp)
          ·rw [if_neg c25] at H
           have c25b0 : decide (t145 ≤ 18) = false := decide_eq_false c25
           clear c25
           simp only [Option.some.injEq, Prod.mk.injEq] at H
           obtain ⟨rfl, rfl, rfl⟩ := H
           obtain ⟨hcz34_0, hcz34_1, hcz34_2, hcz34_3, hfz34_0, hfz34_1, hfz34_2, hfz34_3⟩ := bc4_ BK140
           go_wp2_with (first | ((with_reducible refine gate_callee (f := 31) rfl ?_); refine ge_ (some 37) rfl rfl Try.func31 (by kernel_rfl) rfl #[.string (a0_3.extract 1 a0_3.size)] rfl (h := ?_); (with_reducible refine (code_NewReader.calls (a0_3.extract 1 a0_3.size) t142 t143 w _ ?side1 A21.out).mono ?_); (case side1 => repeat (first | (with_reducible first | exact HB.out | apply below_alloc | apply pw_below_drewN | apply below_drew1 | refine below_set ?_ GE140.out) | exact HB.out)); rintro e w35 ⟨g144, rfl, hi, hb, hb2⟩; refine ⟨_, rfl, ?_⟩; have HI144 := Aside0.mk (hi); have NB144_140 := Aside0.mk (IsS91.ne_blk hi (blk_below (g := gb140) (o := .cells #[.int .i64 a0_0, .int .i64 a0_1, .int .i64 a0_2, .string a0_3] 24 (0, 0)) (bw_ BK140.out) hb2) (by decide)); have NB140_144 := Aside0.mk (Ne.symm (IsS91.ne_blk hi (blk_below (g := gb140) (o := .cells #[.int .i64 a0_0, .int .i64 a0_1, .int .i64 a0_2, .string a0_3] 24 (0, 0)) (bw_ BK140.out) hb2) (by decide))); replace BK140 := Aside0.mk (blk_below (g := gb140) (o := .cells #[.int .i64 a0_0, .int .i64 a0_1, .int .i64 a0_2, .string a0_3] 24 (0, 0)) (bw_ BK140.out) hb2); replace HB := Aside0.mk (hb); (try clear hb); (try clear hb2); (try clear hk); (try clear hi)) | ((with_reducible refine gate_callee (f := 54) rfl ?_); refine ge_ (some 39) rfl rfl Try.func54 (by kernel_rfl) rfl #[.pointer (some ⟨g144, 0, none⟩)] rfl (h := ?_); (with_reducible refine (code_Reader_Num.calls g144 t142 t143 t145 t146 t147 w _ ?side1 ?side2 A22.out).mono ?_); (case side1 => repeat (first | (with_reducible first | exact HI144.out | apply IsS91.alloc | apply IsS91.drewN | apply IsS91.drew | apply IsS91.set_0 | apply IsS91.set_1 | refine IsS91.far ?_ NB144_140.out _) | exact HI144.out)); (case side2 => repeat (first | (with_reducible first | exact HB.out | apply below_alloc | apply pw_below_drewN | apply below_drew1 | refine below_set ?_ (IsS91.ge HI144.out) | refine below_set ?_ GE140.out) | exact HB.out)); rintro e w36 ⟨rfl, hi, hb, hk⟩; refine ⟨_, rfl, ?_⟩; replace BK140 := Aside0.mk (KeepBut.blk hk (g' := gb140) (o := .cells #[.int .i64 a0_0, .int .i64 a0_1, .int .i64 a0_2, .string a0_3] 24 (0, 0)) (bw_ BK140.out) NB140_144.out (by simp)); replace HB := Aside0.mk (hb); replace HI144 := Aside0.mk (hi); (try clear hb); (try clear hb2); (try clear hk); (try clear hi)) | ((with_reducible refine gate_callee (f := 55) rfl ?_); refine ge_ (some 41) rfl rfl Try.func55 (by kernel_rfl) rfl #[.pointer (some ⟨g144, 0, none⟩)] rfl (h := ?_); (with_reducible refine (code_Reader_Err.calls g144 t146 t147 t148 t149 t150 w _ ?side1 ?side2 A23.out).mono ?_); (case side1 => repeat (first | (with_reducible first | exact HI144.out | apply IsS91.alloc | apply IsS91.drewN | apply IsS91.drew | apply IsS91.set_0 | apply IsS91.set_1 | refine IsS91.far ?_ NB144_140.out _) | exact HI144.out)); (case side2 => repeat (first | (with_reducible first | exact HB.out | apply below_alloc | apply pw_below_drewN | apply below_drew1 | refine below_set ?_ (IsS91.ge HI144.out) | refine below_set ?_ GE140.out) | exact HB.out)); rintro e w37 ⟨rfl, hi, hb, hk⟩; refine ⟨_, rfl, ?_⟩; replace BK140 := Aside0.mk (KeepBut.blk hk (g' := gb140) (o := .cells #[.int .i64 a0_0, .int .i64 a0_1, .int .i64 a0_2, .string a0_3] 24 (0, 0)) (bw_ BK140.out) NB140_144.out (by simp)); replace HB := Aside0.mk (hb); replace HI144 := Aside0.mk (hi); (try clear hb); (try clear hb2); (try clear hk); (try clear hi)))
           go_ret3
           exact ⟨er_, by repeat (first | (with_reducible first | exact HB.out | apply below_alloc | apply pw_below_drewN | apply below_drew1 | refine below_set ?_ (IsS91.ge HI144.out) | refine below_set ?_ GE140.out) | exact HB.out)⟩
         ·rw [if_neg c24] at H
          have c24b0 : (t148 == 0) = false := beq_eq_false_iff_ne.mpr c24
          have c24b1 : (t148 != 0) = true := bne_iff_ne.mpr c24
          simp only [Option.some.injEq, Prod.mk.injEq] at H
          obtain ⟨rfl, rfl, rfl⟩ := H
          obtain ⟨hcz38_0, hcz38_1, hcz38_2, hcz38_3, hfz38_0, hfz38_1, hfz38_2, hfz38_3⟩ := bc4_ BK140
          go_wp2_with (first | ((with_reducible refine gate_callee (f := 31) rfl ?_); refine ge_ (some 37) rfl rfl Try.func31 (by kernel_rfl) rfl #[.string (a0_3.extract 1 a0_3.size)] rfl (h := ?_); (with_reducible refine (code_NewReader.calls (a0_3.extract 1 a0_3.size) t142 t143 w _ ?side1 A21.out).mono ?_); (case side1 => repeat (first | (with_reducible first | exact HB.out | apply below_alloc | apply pw_below_drewN | apply below_drew1 | refine below_set ?_ GE140.out) | exact HB.out)); rintro e w39 ⟨g144, rfl, hi, hb, hb2⟩; refine ⟨_, rfl, ?_⟩; have HI144 := Aside0.mk (hi); have NB144_140 := Aside0.mk (IsS91.ne_blk hi (blk_below (g := gb140) (o := .cells #[.int .i64 a0_0, .int .i64 a0_1, .int .i64 a0_2, .string a0_3] 24 (0, 0)) (bw_ BK140.out) hb2) (by decide)); have NB140_144 := Aside0.mk (Ne.symm (IsS91.ne_blk hi (blk_below (g := gb140) (o := .cells #[.int .i64 a0_0, .int .i64 a0_1, .int .i64 a0_2, .string a0_3] 24 (0, 0)) (bw_ BK140.out) hb2) (by decide))); replace BK140 := Aside0.mk (blk_below (g := gb140) (o := .cells #[.int .i64 a0_0, .int .i64 a0_1, .int .i64 a0_2, .string a0_3] 24 (0, 0)) (bw_ BK140.out) hb2); replace HB := Aside0.mk (hb); (try clear hb); (try clear hb2); (try clear hk); (try clear hi)) | ((with_reducible refine gate_callee (f := 54) rfl ?_); refine ge_ (some 39) rfl rfl Try.func54 (by kernel_rfl) rfl #[.pointer (some ⟨g144, 0, none⟩)] rfl (h := ?_); (with_reducible refine (code_Reader_Num.calls g144 t142 t143 t145 t146 t147 w _ ?side1 ?side2 A22.out).mono ?_); (case side1 => repeat (first | (with_reducible first | exact HI144.out | apply IsS91.alloc | apply IsS91.drewN | apply IsS91.drew | apply IsS91.set_0 | apply IsS91.set_1 | refine IsS91.far ?_ NB144_140.out _) | exact HI144.out)); (case side2 => repeat (first | (with_reducible first | exact HB.out | apply below_alloc | apply pw_below_drewN | apply below_drew1 | refine below_set ?_ (IsS91.ge HI144.out) | refine below_set ?_ GE140.out) | exact HB.out)); rintro e w40 ⟨rfl, hi, hb, hk⟩; refine ⟨_, rfl, ?_⟩; replace BK140 := Aside0.mk (KeepBut.blk hk (g' := gb140) (o := .cells #[.int .i64 a0_0, .int .i64 a0_1, .int .i64 a0_2, .string a0_3] 24 (0, 0)) (bw_ BK140.out) NB140_144.out (by simp)); replace HB := Aside0.mk (hb); replace HI144 := Aside0.mk (hi); (try clear hb); (try clear hb2); (try clear hk); (try clear hi)) | ((with_reducible refine gate_callee (f := 55) rfl ?_); refine ge_ (some 41) rfl rfl Try.func55 (by kernel_rfl) rfl #[.pointer (some ⟨g144, 0, none⟩)] rfl (h := ?_); (with_reducible refine (code_Reader_Err.calls g144 t146 t147 t148 t149 t150 w _ ?side1 ?side2 A23.out).mono ?_); (case side1 => repeat (first | (with_reducible first | exact HI144.out | apply IsS91.alloc | apply IsS91.drewN | apply IsS91.drew | apply IsS91.set_0 | apply IsS91.set_1 | refine IsS91.far ?_ NB144_140.out _) | exact HI144.out)); (case side2 => repeat (first | (with_reducible first | exact HB.out | apply below_alloc | apply pw_below_drewN | apply below_drew1 | refine below_set ?_ (IsS91.ge HI144.out) | refine below_set ?_ GE140.out) | exact HB.out)); rintro e w41 ⟨rfl, hi, hb, hk⟩; refine ⟨_, rfl, ?_⟩; replace BK140 := Aside0.mk (KeepBut.blk hk (g' := gb140) (o := .cells #[.int .i64 a0_0, .int .i64 a0_1, .int .i64 a0_2, .string a0_3] 24 (0, 0)) (bw_ BK140.out) NB140_144.out (by simp)); replace HB := Aside0.mk (hb); replace HI144 := Aside0.mk (hi); (try clear hb); (try clear hb2); (try clear hk); (try clear hi)))
          go_ret3
          exact ⟨er_, by repeat (first | (with_reducible first | exact HB.out | apply below_alloc | apply pw_below_drewN | apply below_drew1 | refine below_set ?_ (IsS91.ge HI144.out) | refine below_set ?_ GE140.out) | exact HB.out)⟩
        ·rw [if_neg c20] at H
         exact absurd H (by simp)
       ·replace c19 := Bool.eq_false_iff.mpr c19
        subst c19
        have H1 : (some (0, 0, false)) = some (r1, r2, r3) := by rw [if_neg (show ¬ (false = true) by decide)] at H; exact H
        clear H
        have H := H1
        clear H1
        simp only [Option.some.injEq, Prod.mk.injEq] at H
        obtain ⟨rfl, rfl, rfl⟩ := H
        go_wp2
        go_ret3
        exact ⟨er_, hb_ HB⟩
 ·replace c3 := Bool.eq_false_iff.mpr c3
  subst c3
  have H1 : (some (0, 0, false)) = some (r1, r2, r3) := by rw [if_neg (show ¬ (false = true) by decide)] at H; exact H
  clear H
  have H := H1
  clear H1
  simp only [Option.some.injEq, Prod.mk.injEq] at H
  obtain ⟨rfl, rfl, rfl⟩ := H
  go_enter Try.func18, Try.ntmps18
  go_wp2_with (first | ((with_reducible refine gate_dst (N := 1) rfl ?_); (try (refine gate_guard (by rfl) ?_; dsimp only)); refine be_ (N := 1) (cs := #[.int .i64 a0_0, .int .i64 a0_1, .int .i64 a0_2, .string a0_3]) (t := 24) (h := ?_); intro gb140 hg w42 hbox hb; have BK140 := Aside0.mk (hbox); have GW140 := gw_ HB hg; have GE140 := gw_ HB hg; replace HB := bs_ HB hb; clear hb hbox hg; obtain ⟨hcz43_0, hcz43_1, hcz43_2, hcz43_3, hfz43_0, hfz43_1, hfz43_2, hfz43_3⟩ := bc4_ BK140) | ((with_reducible refine gate_callee (f := 20) rfl ?_); refine ge_ (some 9) rfl rfl Try.func20 (by kernel_rfl) rfl #[.agg #[.int .i64 a0_0, .int .i64 a0_1, .int .i64 a0_2, .string a0_3]] rfl (h := ?_); (with_reducible refine (record_Right.calls a0_0 a0_1 a0_2 a0_3 false _ A2.out).mono ?_); rintro e w44 ⟨rfl, hb⟩; refine ⟨_, rfl, ?_⟩; replace BK140 := bb_ BK140 hb; replace HB := bs_ HB hb; (try clear hb); (try clear hb2); (try clear hk); (try clear hi)))
  go_ret3
  exact ⟨er_, hb_ HB⟩

/-! ### calamusref33_Right: function 21 -/
def calamusref33_Right.f (a0_0 : Int) (a0_1 : Int) (a0_2 : Int) (a0_3 : ByteArray) : Option (Bool) := if a0_0 ≥ 1 then (if a0_0 ≤ 2 then (if a0_1 ≥ 1 then (if a0_1 ≤ 2147483647 then (if a0_2 ≥ 0 then (if a0_2 ≤ 2147483647 then (some (decide ((a0_3.size : Int) ≤ 64))) else (some false)) else (some false)) else (some false)) else (some false)) else (some false)) else (some false)
set_option maxHeartbeats 8000000 in
set_option maxRecDepth 100000 in
theorem calamusref33_Right.calls (a0_0 : Int) (a0_1 : Int) (a0_2 : Int) (a0_3 : ByteArray) (r : Bool) (w : World) (h : calamusref33_Right.f a0_0 a0_1 a0_2 a0_3 = some r) :
  Calls Try.prog 21 #[.agg #[.int .i64 a0_0, .int .i64 a0_1, .int .i64 a0_2, .string a0_3]] w fun e w' => e = .returned (.bool r) ∧ Below w.heap.size w w' := by
 have hu26 := Try.underlying26
 have HB := Aside0.mk (Below.refl w.heap.size w)
 have H : (if a0_0 ≥ 1 then (if a0_0 ≤ 2 then (if a0_1 ≥ 1 then (if a0_1 ≤ 2147483647 then (if a0_2 ≥ 0 then (if a0_2 ≤ 2147483647 then (some (decide ((a0_3.size : Int) ≤ 64))) else (some false)) else (some false)) else (some false)) else (some false)) else (some false)) else (some false)) = some r := h
 clear h
 by_cases c2 : a0_0 ≥ 1
 ·rw [if_pos c2] at H
  have c2b0 : decide (1 ≤ a0_0) = true := decide_eq_true c2
  clear c2
  by_cases c3 : a0_0 ≤ 2
  ·rw [if_pos c3] at H
   have c3b0 : decide (a0_0 ≤ 2) = true := decide_eq_true c3
   clear c3
   by_cases c4 : a0_1 ≥ 1
   ·rw [if_pos c4] at H
    have c4b0 : decide (1 ≤ a0_1) = true := decide_eq_true c4
    clear c4
    by_cases c5 : a0_1 ≤ 2147483647
    ·rw [if_pos c5] at H
     have c5b0 : decide (a0_1 ≤ 2147483647) = true := decide_eq_true c5
     clear c5
     by_cases c6 : a0_2 ≥ 0
     ·rw [if_pos c6] at H
      have c6b0 : decide (0 ≤ a0_2) = true := decide_eq_true c6
      clear c6
      by_cases c7 : a0_2 ≤ 2147483647
      ·rw [if_pos c7] at H
       have c7b0 : decide (a0_2 ≤ 2147483647) = true := decide_eq_true c7
       clear c7
       obtain rfl := Option.some.inj H
       go_enter Try.func21, Try.ntmps21
       go_wp2_with (first | ((with_reducible refine gate_dst (N := 1) rfl ?_); (try (refine gate_guard (by rfl) ?_; dsimp only)); refine be_ (N := 1) (cs := #[.int .i64 a0_0, .int .i64 a0_1, .int .i64 a0_2, .string a0_3]) (t := 26) (h := ?_); intro gb151 hg w8 hbox hb; have BK151 := Aside0.mk (hbox); have GW151 := gw_ HB hg; have GE151 := gw_ HB hg; replace HB := bs_ HB hb; clear hb hbox hg; obtain ⟨hcz9_0, hcz9_1, hcz9_2, hcz9_3, hfz9_0, hfz9_1, hfz9_2, hfz9_3⟩ := bc4_ BK151))
       go_ret
       exact ⟨er_, hb_ HB⟩
      ·rw [if_neg c7] at H
       have c7b0 : decide (a0_2 ≤ 2147483647) = false := decide_eq_false c7
       clear c7
       obtain rfl := Option.some.inj H
       go_enter Try.func21, Try.ntmps21
       go_wp2_with (first | ((with_reducible refine gate_dst (N := 1) rfl ?_); (try (refine gate_guard (by rfl) ?_; dsimp only)); refine be_ (N := 1) (cs := #[.int .i64 a0_0, .int .i64 a0_1, .int .i64 a0_2, .string a0_3]) (t := 26) (h := ?_); intro gb151 hg w10 hbox hb; have BK151 := Aside0.mk (hbox); have GW151 := gw_ HB hg; have GE151 := gw_ HB hg; replace HB := bs_ HB hb; clear hb hbox hg; obtain ⟨hcz11_0, hcz11_1, hcz11_2, hcz11_3, hfz11_0, hfz11_1, hfz11_2, hfz11_3⟩ := bc4_ BK151))
       go_ret
       exact ⟨er_, hb_ HB⟩
     ·rw [if_neg c6] at H
      have c6b0 : decide (0 ≤ a0_2) = false := decide_eq_false c6
      clear c6
      obtain rfl := Option.some.inj H
      go_enter Try.func21, Try.ntmps21
      go_wp2_with (first | ((with_reducible refine gate_dst (N := 1) rfl ?_); (try (refine gate_guard (by rfl) ?_; dsimp only)); refine be_ (N := 1) (cs := #[.int .i64 a0_0, .int .i64 a0_1, .int .i64 a0_2, .string a0_3]) (t := 26) (h := ?_); intro gb151 hg w12 hbox hb; have BK151 := Aside0.mk (hbox); have GW151 := gw_ HB hg; have GE151 := gw_ HB hg; replace HB := bs_ HB hb; clear hb hbox hg; obtain ⟨hcz13_0, hcz13_1, hcz13_2, hcz13_3, hfz13_0, hfz13_1, hfz13_2, hfz13_3⟩ := bc4_ BK151))
      go_ret
      exact ⟨er_, hb_ HB⟩
    ·rw [if_neg c5] at H
     have c5b0 : decide (a0_1 ≤ 2147483647) = false := decide_eq_false c5
     clear c5
     obtain rfl := Option.some.inj H
     go_enter Try.func21, Try.ntmps21
     go_wp2_with (first | ((with_reducible refine gate_dst (N := 1) rfl ?_); (try (refine gate_guard (by rfl) ?_; dsimp only)); refine be_ (N := 1) (cs := #[.int .i64 a0_0, .int .i64 a0_1, .int .i64 a0_2, .string a0_3]) (t := 26) (h := ?_); intro gb151 hg w14 hbox hb; have BK151 := Aside0.mk (hbox); have GW151 := gw_ HB hg; have GE151 := gw_ HB hg; replace HB := bs_ HB hb; clear hb hbox hg; obtain ⟨hcz15_0, hcz15_1, hcz15_2, hcz15_3, hfz15_0, hfz15_1, hfz15_2, hfz15_3⟩ := bc4_ BK151))
     go_ret
     exact ⟨er_, hb_ HB⟩
   ·rw [if_neg c4] at H
    have c4b0 : decide (1 ≤ a0_1) = false := decide_eq_false c4
    clear c4
    obtain rfl := Option.some.inj H
    go_enter Try.func21, Try.ntmps21
    go_wp2_with (first | ((with_reducible refine gate_dst (N := 1) rfl ?_); (try (refine gate_guard (by rfl) ?_; dsimp only)); refine be_ (N := 1) (cs := #[.int .i64 a0_0, .int .i64 a0_1, .int .i64 a0_2, .string a0_3]) (t := 26) (h := ?_); intro gb151 hg w16 hbox hb; have BK151 := Aside0.mk (hbox); have GW151 := gw_ HB hg; have GE151 := gw_ HB hg; replace HB := bs_ HB hb; clear hb hbox hg; obtain ⟨hcz17_0, hcz17_1, hcz17_2, hcz17_3, hfz17_0, hfz17_1, hfz17_2, hfz17_3⟩ := bc4_ BK151))
    go_ret
    exact ⟨er_, hb_ HB⟩
  ·rw [if_neg c3] at H
   have c3b0 : decide (a0_0 ≤ 2) = false := decide_eq_false c3
   clear c3
   obtain rfl := Option.some.inj H
   go_enter Try.func21, Try.ntmps21
   go_wp2_with (first | ((with_reducible refine gate_dst (N := 1) rfl ?_); (try (refine gate_guard (by rfl) ?_; dsimp only)); refine be_ (N := 1) (cs := #[.int .i64 a0_0, .int .i64 a0_1, .int .i64 a0_2, .string a0_3]) (t := 26) (h := ?_); intro gb151 hg w18 hbox hb; have BK151 := Aside0.mk (hbox); have GW151 := gw_ HB hg; have GE151 := gw_ HB hg; replace HB := bs_ HB hb; clear hb hbox hg; obtain ⟨hcz19_0, hcz19_1, hcz19_2, hcz19_3, hfz19_0, hfz19_1, hfz19_2, hfz19_3⟩ := bc4_ BK151))
   go_ret
   exact ⟨er_, hb_ HB⟩
 ·rw [if_neg c2] at H
  have c2b0 : decide (1 ≤ a0_0) = false := decide_eq_false c2
  clear c2
  obtain rfl := Option.some.inj H
  go_enter Try.func21, Try.ntmps21
  go_wp2_with (first | ((with_reducible refine gate_dst (N := 1) rfl ?_); (try (refine gate_guard (by rfl) ?_; dsimp only)); refine be_ (N := 1) (cs := #[.int .i64 a0_0, .int .i64 a0_1, .int .i64 a0_2, .string a0_3]) (t := 26) (h := ?_); intro gb151 hg w20 hbox hb; have BK151 := Aside0.mk (hbox); have GW151 := gw_ HB hg; have GE151 := gw_ HB hg; replace HB := bs_ HB hb; clear hb hbox hg; obtain ⟨hcz21_0, hcz21_1, hcz21_2, hcz21_3, hfz21_0, hfz21_1, hfz21_2, hfz21_3⟩ := bc4_ BK151))
  go_ret
  exact ⟨er_, hb_ HB⟩

/-! ### calamusref01_Num: function 53 -/
def calamusref01_Num.f (a0 : Int) : Option (ByteArray) := if a0 < 0 then (some (⟨#[]⟩ : ByteArray)) else (if a0 > 2147483647 then (some (⟨#[]⟩ : ByteArray)) else (some (strOfNums (([(Int.tmod a0 256) % 256, (Int.tmod (wrap64 (Int.tdiv a0 256)) 256) % 256, (Int.tmod (wrap64 (Int.tdiv a0 65536)) 256) % 256, (wrap64 (Int.tdiv a0 16777216)) % 256] : List Int)))))
set_option maxHeartbeats 8000000 in
set_option maxRecDepth 100000 in
theorem calamusref01_Num.calls (a0 : Int) (r : ByteArray) (w : World) (h : calamusref01_Num.f a0 = some r) :
  Calls Try.prog 53 #[.int .i64 a0] w fun e w' => e = .returned (.string r) ∧ Below w.heap.size w w' := by
 have HB := Aside0.mk (Below.refl w.heap.size w)
 have H : (if a0 < 0 then (some (⟨#[]⟩ : ByteArray)) else (if a0 > 2147483647 then (some (⟨#[]⟩ : ByteArray)) else (some (strOfNums (([(Int.tmod a0 256) % 256, (Int.tmod (wrap64 (Int.tdiv a0 256)) 256) % 256, (Int.tmod (wrap64 (Int.tdiv a0 65536)) 256) % 256, (wrap64 (Int.tdiv a0 16777216)) % 256] : List Int)))))) = some r := h
 clear h
 by_cases c2 : a0 < 0
 ·rw [if_pos c2] at H
  have c2b0 : decide (a0 < 0) = true := decide_eq_true c2
  clear c2
  obtain rfl := Option.some.inj H
  go_enter Try.func53, Try.ntmps53
  go_wp2
  go_ret
  exact ⟨er_, hb_ HB⟩
 ·rw [if_neg c2] at H
  have c2b0 : decide (a0 < 0) = false := decide_eq_false c2
  clear c2
  by_cases c3 : a0 > 2147483647
  ·rw [if_pos c3] at H
   have c3b0 : decide (2147483647 < a0) = true := decide_eq_true c3
   clear c3
   obtain rfl := Option.some.inj H
   go_enter Try.func53, Try.ntmps53
   go_wp2
   go_ret
   exact ⟨er_, hb_ HB⟩
  ·rw [if_neg c3] at H
   have c3b0 : decide (2147483647 < a0) = false := decide_eq_false c3
   clear c3
   obtain ⟨y152, hy152⟩ : ∃ y_ : List Int, y_ = (([(Int.tmod a0 256) % 256, (Int.tmod (wrap64 (Int.tdiv a0 256)) 256) % 256, (Int.tmod (wrap64 (Int.tdiv a0 65536)) 256) % 256, (wrap64 (Int.tdiv a0 16777216)) % 256] : List Int)) := ⟨_, rfl⟩
   replace H : (some (strOfNums y152)) = some r := th_ H hy152
   have Ny152 := Aside0.mk hy152
   clear hy152
   obtain rfl := Option.some.inj H
   go_enter Try.func53, Try.ntmps53
   go_wp2_with (first | ((with_reducible refine gate_dst (N := 23) rfl ?_); refine Kd.R_lit (Kd.int .u8) _ 5 ?hg (N := 23) ?hd (xs := ([(Int.tmod a0 256) % 256, (Int.tmod (wrap64 (Int.tdiv a0 256)) 256) % 256, (Int.tmod (wrap64 (Int.tdiv a0 65536)) 256) % 256, (wrap64 (Int.tdiv a0 16777216)) % 256] : List Int)) (inner := [.int .u8 ((Int.tmod a0 256) % 256), .int .u8 ((Int.tmod (wrap64 (Int.tdiv a0 256)) 256) % 256), .int .u8 ((Int.tmod (wrap64 (Int.tdiv a0 65536)) 256) % 256), .int .u8 ((wrap64 (Int.tdiv a0 16777216)) % 256)]) (ok := fun _ => True) (okp := fun _ => True) ?hr ?hp (fun _ hk => hk) trivial (Below.refl _ _) (Nat.le_refl _) (by simp) ?_; (case hd => rfl); (case hg => rfl); (case hr => first | (go_simp; done) | (go_simp; rfl)); (case hp => exact (Reps.one (show Kd.M (Kd.int .u8) _ _ _ ((Int.tmod a0 256) % 256) [.int .u8 ((Int.tmod a0 256) % 256)] from rfl) (Reps.one (show Kd.M (Kd.int .u8) _ _ _ ((Int.tmod (wrap64 (Int.tdiv a0 256)) 256) % 256) [.int .u8 ((Int.tmod (wrap64 (Int.tdiv a0 256)) 256) % 256)] from rfl) (Reps.one (show Kd.M (Kd.int .u8) _ _ _ ((Int.tmod (wrap64 (Int.tdiv a0 65536)) 256) % 256) [.int .u8 ((Int.tmod (wrap64 (Int.tdiv a0 65536)) 256) % 256)] from rfl) (Reps.one (show Kd.M (Kd.int .u8) _ _ _ ((wrap64 (Int.tdiv a0 16777216)) % 256) [.int .u8 ((wrap64 (Int.tdiv a0 16777216)) % 256)] from rfl) (Reps.none _ _)))))); intro v153 w4 ho5 hb hg_ hnew_; clear hg_ hnew_; (first | rw [← Ny152.out] at ho5 | (simp only [Int.reduceToNat] at ho5; rw [← Ny152.out] at ho5)); have HO154 := Aside0.mk (Kd.R_lower ho5 (below_size (hb_ HB))); replace HB := bs_ HB hb; clear hb ho5; have hcv6 := own_string (P := Try.prog) Try.underlying84 Try.underlying5 Try.underlying9 (Kd.own_of_R HO154.out)))
   go_ret
   exact ⟨er_, hb_ HB⟩

end Go.Proofs.Ytealbonfaebikaa.PRecordWrites
