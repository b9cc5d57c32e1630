/- Of the law calamus/calamuslaw01.CodeWrites: each function as a plain Lean function, with a proof that the call comes to it; the row. By wip/tpl/own_print.py. Conditions: none but the row's own. -/
import Derived.Test.YtjobaaolohemgaaOCodeWritesx0
import Derived.Test.YtjobaaolohemgaaOCodeWritesx1
namespace Go.Proofs.Ytjobaaolohemgaa.PCodeWrites
open Go.RowKit Go.Proofs.YtjobaaolohemgaaW.PrintWords Go.Proofs.YtjobaaolohemgaaW.PrintLast Go.Proofs.YtjobaaolohemgaaW.PrintMore
attribute [local go_sem] max2_int min2_int max_two min_two max_three min_three max_four min_four   -- for this text's walks alone
set_option linter.unusedVariables false
set_option linter.unusedSimpArgs false

/-! ### code_Reader_take: function 58 -/
def code_Reader_take.f (s0_0 : ByteArray) (s0_1 : Int) (a1 : Int) : Option (ByteArray × Bool × ByteArray × Int) := if s0_1 = 0 then (if a1 > (s0_0.size : Int) then ((code_Reader_fail.f s0_0 s0_1 2).bind fun bt116 => (some ((⟨#[]⟩ : ByteArray), false, bt116.1, bt116.2))) else (if 0 ≤ a1 then (if a1 ≤ (s0_0.size : Int) then (some (s0_0.extract 0 (a1 : Int).toNat, true, s0_0.extract (a1 : Int).toNat s0_0.size, s0_1)) else (none)) else (none))) else (some ((⟨#[]⟩ : ByteArray), false, s0_0, s0_1))
set_option maxHeartbeats 8000000 in
set_option maxRecDepth 100000 in
theorem code_Reader_take.calls (g : Nat) (s0_0 : ByteArray) (s0_1 : Int) (a1 : Int) (r1 : ByteArray) (r2 : Bool) (r3 : ByteArray) (r4 : Int) (w0 w : World) (hI : IsS45 w0 w g s0_0 s0_1) (hB : Below w0.heap.size w0 w) (h : code_Reader_take.f s0_0 s0_1 a1 = some (r1, r2, r3, r4)) :
  Calls Try.prog 58 #[.pointer (some ⟨g, 0, none⟩), .int .i64 a1] w fun e w' => e = .returned (.tuple #[.string r1, .bool r2]) ∧ IsS45 w0 w' g r3 r4 ∧ Below w0.heap.size w0 w' ∧ KeepBut w w' g none := by
 have HI0 := Aside0.mk hI
 have HK := Aside0.mk (KeepBut.refl w g none)
 have HL := Aside0.mk hB.size
 clear hI
 have HW0 := Aside0.mk hB.size
 have HB := Aside0.mk hB
 clear hB
 have H : (if s0_1 = 0 then (if a1 > (s0_0.size : Int) then ((code_Reader_fail.f s0_0 s0_1 2).bind fun bt116 => (some ((⟨#[]⟩ : ByteArray), false, bt116.1, bt116.2))) else (if 0 ≤ a1 then (if a1 ≤ (s0_0.size : Int) then (some (s0_0.extract 0 (a1 : Int).toNat, true, s0_0.extract (a1 : Int).toNat s0_0.size, s0_1)) else (none)) else (none))) else (some ((⟨#[]⟩ : ByteArray), false, s0_0, s0_1))) = some (r1, r2, r3, r4) := h
 clear h
 by_cases c3 : s0_1 = 0
 ·rw [if_pos c3] at H
  have c3b0 : (s0_1 == 0) = true := beq_iff_eq.mpr c3
  have c3b1 : (s0_1 != 0) = false := bne_eq_false_iff_eq.mpr c3
  clear c3
  by_cases c4 : a1 > (s0_0.size : Int)
  ·rw [if_pos c4] at H
   have c4b0 : decide ((s0_0.size : Int) < a1) = true := decide_eq_true c4
   clear c4
   replace H := Option.bind_eq_some_iff.mp H
   obtain ⟨⟨t116, t117⟩, A50, H⟩ := H
   replace H : (some ((⟨#[]⟩ : ByteArray), false, t116, t117)) = some (r1, r2, r3, r4) := H
   have A5 := Aside0.mk A50
   clear A50
   simp only [Option.some.injEq, Prod.mk.injEq] at H
   obtain ⟨rfl, rfl, rfl, rfl⟩ := H
   obtain ⟨HGz6, hgz6⟩ := HI0.out
   have hcz6_0 := cellS45_0 HGz6
   have hcz6_1 := cellS45_1 HGz6
   have hfz6_0 := blk_frozen HGz6 0
   have hfz6_1 := blk_frozen HGz6 1
   clear HGz6 hgz6
   go_enter Try.func58, Try.ntmps58
   go_wp2_with (first | ((with_reducible refine gate_callee (f := 60) rfl ?_); refine ge_ (some 20) rfl rfl Try.func60 (by kernel_rfl) rfl #[.pointer (some ⟨g, 0, none⟩), .int .i64 2] rfl (h := ?_); (with_reducible refine (code_Reader_fail.calls g s0_0 s0_1 2 t116 t117 w0 _ ?side1 ?side2 A5.out).mono ?_); (case side1 => repeat (first | (with_reducible first | exact HI0.out | apply IsS45.alloc | apply IsS45.drewN | apply IsS45.drew | apply IsS45.set_0 | apply IsS45.set_1) | exact HI0.out)); (case side2 => repeat (first | (with_reducible first | exact HB.out | apply below_alloc | apply pw_below_drewN | apply below_drew1 | refine below_set ?_ (IsS45.ge HI0.out)) | exact HB.out)); rintro e w7 ⟨rfl, hi, hb, hk⟩; refine ⟨_, rfl, ?_⟩; replace HK := Aside0.mk (KeepBut.trans (by repeat (first | (with_reducible first | exact HK.out | apply KeepBut.set_ | apply keep_drewN | apply keep_drew | apply keep_alloc) | exact HK.out)) hk (.inl rfl)); replace HB := Aside0.mk (hb); replace HI0 := Aside0.mk (hi); (try clear hb); (try clear hb2); (try clear hk); (try clear hi)))
   go_ret2
   exact ⟨er_, by repeat (first | (with_reducible first | exact HI0.out | apply IsS45.alloc | apply IsS45.drewN | apply IsS45.drew | apply IsS45.set_0 | apply IsS45.set_1) | exact HI0.out), by repeat (first | (with_reducible first | exact HB.out | apply below_alloc | apply pw_below_drewN | apply below_drew1 | refine below_set ?_ (IsS45.ge HI0.out)) | exact HB.out), by repeat (first | (with_reducible first | exact HK.out | apply KeepBut.set_ | apply keep_drewN | apply keep_drew | apply keep_alloc) | exact HK.out)⟩
  ·rw [if_neg c4] at H
   have c4b0 : decide ((s0_0.size : Int) < a1) = false := decide_eq_false c4
   clear c4
   by_cases c8 : 0 ≤ a1
   ·rw [if_pos c8] at H
    have c8b0 := eq_true c8
    try (have c8b0x := c8b0; simp only [ByteArray.size_extract, Nat.min_self] at c8b0x)
    have c8b1 : decide (0 ≤ a1) = true := decide_eq_true c8
    clear c8
    by_cases c9 : a1 ≤ (s0_0.size : Int)
    ·rw [if_pos c9] at H
     have c9b0 := eq_true c9
     try (have c9b0x := c9b0; simp only [ByteArray.size_extract, Nat.min_self] at c9b0x)
     have c9b1 : decide (a1 ≤ (s0_0.size : Int)) = true := decide_eq_true c9
     clear c9
     have c10b0 := eq_true (of_decide_eq_true as_ : 0 ≤ a1)
     have c11b0 := eq_true (of_decide_eq_true as_ : a1 ≤ (s0_0.size : Int))
     simp only [Option.some.injEq, Prod.mk.injEq] at H
     obtain ⟨rfl, rfl, rfl, rfl⟩ := H
     obtain ⟨HGz12, hgz12⟩ := HI0.out
     have hcz12_0 := cellS45_0 HGz12
     have hcz12_1 := cellS45_1 HGz12
     have hfz12_0 := blk_frozen HGz12 0
     have hfz12_1 := blk_frozen HGz12 1
     clear HGz12 hgz12
     go_enter Try.func58, Try.ntmps58
     go_wp2
     go_ret2
     exact ⟨er_, by repeat (first | (with_reducible first | exact HI0.out | apply IsS45.alloc | apply IsS45.drewN | apply IsS45.drew | apply IsS45.set_0 | apply IsS45.set_1) | exact HI0.out), by repeat (first | (with_reducible first | exact HB.out | apply below_alloc | apply pw_below_drewN | apply below_drew1 | refine below_set ?_ (IsS45.ge HI0.out)) | exact HB.out), by repeat (first | (with_reducible first | exact HK.out | apply KeepBut.set_ | apply keep_drewN | apply keep_drew | apply keep_alloc) | exact HK.out)⟩
    ·rw [if_neg c9] at H
     exact absurd H (by simp)
   ·rw [if_neg c8] at H
    exact absurd H (by simp)
 ·rw [if_neg c3] at H
  have c3b0 : (s0_1 == 0) = false := beq_eq_false_iff_ne.mpr c3
  have c3b1 : (s0_1 != 0) = true := bne_iff_ne.mpr c3
  simp only [Option.some.injEq, Prod.mk.injEq] at H
  obtain ⟨rfl, rfl, rfl, rfl⟩ := H
  obtain ⟨HGz13, hgz13⟩ := HI0.out
  have hcz13_0 := cellS45_0 HGz13
  have hcz13_1 := cellS45_1 HGz13
  have hfz13_0 := blk_frozen HGz13 0
  have hfz13_1 := blk_frozen HGz13 1
  clear HGz13 hgz13
  go_enter Try.func58, Try.ntmps58
  go_wp2
  go_ret2
  exact ⟨er_, by repeat (first | (with_reducible first | exact HI0.out | apply IsS45.alloc | apply IsS45.drewN | apply IsS45.drew | apply IsS45.set_0 | apply IsS45.set_1) | exact HI0.out), by repeat (first | (with_reducible first | exact HB.out | apply below_alloc | apply pw_below_drewN | apply below_drew1 | refine below_set ?_ (IsS45.ge HI0.out)) | exact HB.out), by repeat (first | (with_reducible first | exact HK.out | apply KeepBut.set_ | apply keep_drewN | apply keep_drew | apply keep_alloc) | exact HK.out)⟩

/-! ### code_Reader_Num: function 22, by hand (code.Reader.Num.lean) -/
set_option maxHeartbeats 1000000 in
set_option maxRecDepth 100000 in
theorem code_Reader_Num_at (s : ByteArray) (i : Int) (b : Nat) (w : World) (h0 : 0 ≤ i) (h1 : i < s.size) (h3 : i ≤ 3) (hc : w.cell? ⟨b, 0, none⟩ = some (.string s)) :
  Calls Try.prog 59 #[.int .i64 i, .pointer (some ⟨b, 0, none⟩)] w fun e w' => e = .returned (.int .i64 (bt s i * 2 ^ (8 * i).toNat)) ∧ w = w' := by
 have hb := bt_at s i
 have hr := bt_range s i
 have hw : wrap64 (bt s i * 2 ^ (8 * i).toNat) = bt s i * 2 ^ (8 * i).toNat := by
  have h : i = 0 ∨ i = 1 ∨ i = 2 ∨ i = 3 := by omega
  rcases h with rfl | rfl | rfl | rfl <;> simp only [Int.reduceMul, Int.reduceToNat, Nat.reducePow, Int.reducePow] <;> unfold wrap64 <;> omega
 have HW := Aside0.mk hw
 clear hw
 go_enter Try.func59, Try.ntmps59
 go_wp2
 go_ret
 exact ⟨by show Ending.returned (.int .i64 (wrap64 (bt s i * 2 ^ (8 * i).toNat))) = _; rw [HW.out], rfl⟩

/-- A reader's number. -/
def num4 (s : ByteArray) : Int := bt s 0 + 256 * bt s 1 + 65536 * bt s 2 + 16777216 * bt s 3
def acc4 (s : ByteArray) : Nat → Int
 | 0 => 0
 | k + 1 => Go.bits .or .i64 (acc4 s k) (bt s (k : Int) * 2 ^ (8 * (k : Int)).toNat)
theorem or_low (i : Nat) (y x : Int) (hx0 : 0 ≤ x) (hx : x % 2 ^ i = 0) (hx1 : x < 2 ^ 32) (hy0 : 0 ≤ y) (hy : y < 2 ^ i) (hy1 : y < 2 ^ 32) : Go.bits .or .i64 y x = y + x := by
 obtain ⟨a, rfl⟩ := Int.eq_ofNat_of_zero_le hx0
 obtain ⟨b, rfl⟩ := Int.eq_ofNat_of_zero_le hy0
 have ha : a < 2 ^ 32 := by exact_mod_cast hx1
 have hb : b < 2 ^ 32 := by exact_mod_cast hy1
 have hk : ∀ n : Int, 0 ≤ n → n < 2 ^ 32 → IntKind.i64.wrap n = n := fun n h0 h1 => by
  rw [Go.IntKind.wrap_i64]; omega
 rw [(Go.bits_nat .i64 32 (by decide) hk b a hb ha).2, Nat.or_comm, ← (Go.bits_nat .i64 32 (by decide) hk a b ha hb).2,
  Go.bits_join .i64 32 (by decide) hk i _ _ hx0 hx hx1 hy0 hy hy1]
 omega
theorem acc4_num (s : ByteArray) : acc4 s 4 = num4 s := by
 have h0 := bt_range s 0
 have h1 := bt_range s 1
 have h2 := bt_range s 2
 have h3 := bt_range s 3
 unfold num4
 simp only [acc4, Nat.reduceAdd, Int.reduceMul, Int.reduceToNat, Nat.reducePow, Int.reducePow, Int.cast_ofNat_Int, Int.ofNat_eq_natCast]
 generalize bt s 0 = a at *
 generalize bt s 1 = b at *
 generalize bt s 2 = c at *
 generalize bt s 3 = d at *
 have e0 : Go.bits .or .i64 0 (a * 1) = a := by rw [or_low 0 0 (a * 1) (by omega) (by omega) (by omega) (by omega) (by omega) (by omega)]; omega
 rw [e0, or_low 8 a (b * 256) (by omega) (by omega) (by omega) (by omega) (by omega) (by omega), or_low 16 (a + b * 256) (c * 65536) (by omega) (by omega) (by omega) (by omega) (by omega) (by omega),
  or_low 24 (a + b * 256 + c * 65536) (d * 16777216) (by omega) (by omega) (by omega) (by omega) (by omega) (by omega)]
 omega

def code_Reader_Num.f (s0_0 : ByteArray) (s0_1 : Int) : Option (Int × ByteArray × Int) :=
 (code_Reader_take.f s0_0 s0_1 4).bind fun bt107 => if bt107.2.1 = true then (if bt107.1.size = 4 then (if num4 bt107.1 > 2147483647 then ((code_Reader_fail.f bt107.2.2.1 bt107.2.2.2 6).bind fun bt108 => some (0, bt108.1, bt108.2)) else some (num4 bt107.1, bt107.2.2.1, bt107.2.2.2)) else none) else some (0, bt107.2.2.1, bt107.2.2.2)

set_option maxHeartbeats 4000000 in
set_option maxRecDepth 100000 in
theorem code_Reader_Num.calls (g : Nat) (s0_0 : ByteArray) (s0_1 : Int) (r1 : Int) (r2 : ByteArray) (r3 : Int) (w0 w : World) (hI : IsS45 w0 w g s0_0 s0_1) (hB : Below w0.heap.size w0 w) (h : code_Reader_Num.f s0_0 s0_1 = some (r1, r2, r3)) :
  Calls Try.prog 22 #[.pointer (some ⟨g, 0, none⟩)] w fun e w' => e = .returned (.int .i64 r1) ∧ IsS45 w0 w' g r2 r3 ∧ Below w0.heap.size w0 w' ∧ KeepBut w w' g none := by
 unfold code_Reader_Num.f at h
 obtain ⟨⟨s, ok, t2, t3⟩, A1, H⟩ := Option.bind_eq_some_iff.mp h
 clear h
 simp only at H
 have HA := Aside0.mk A1
 have HIh := Aside0.mk hI
 have HBh := Aside0.mk hB
 clear A1 hI hB
 have hpe := fun (W : World) (p : Option Addr) => run_eql_pointer_nil (P := Try.prog) W 30 p (by kernel_rfl)
 cases ok with
 | false =>
  simp only [Bool.false_eq_true, if_false, Option.some.injEq, Prod.mk.injEq] at H
  obtain ⟨rfl, rfl, rfl⟩ := H
  go_enter Try.func22, Try.ntmps22
  go_wp2_with (go_at_call 58; refine (code_Reader_take.calls g s0_0 s0_1 4 s false _ _ w0 _ HIh.out HBh.out HA.out).mono ?_; rintro e w1 ⟨rfl, hi, hb, hk⟩)
  go_ret
  exact ⟨rfl, hi.alloc _, hb.alloc hb.size _, keep_alloc hk _⟩
 | true =>
  simp only [if_true] at H
  by_cases h4 : s.size = 4
  ·rw [if_pos h4] at H
   have hmax : s.size ≤ 4 ∧ 4 ≤ s.size := by omega
   clear h4
   by_cases hgt : num4 s > 2147483647
   ·rw [if_pos hgt] at H
    obtain ⟨⟨u1, u2⟩, A2, H⟩ := Option.bind_eq_some_iff.mp H
    simp only [Option.some.injEq, Prod.mk.injEq] at H
    obtain ⟨rfl, rfl, rfl⟩ := H
    have HA2 := Aside0.mk A2
    have hgb := Aside0.mk hgt
    clear A2 hgt
    go_enter Try.func22, Try.ntmps22
    go_wp2_with (go_at_call 58; refine (code_Reader_take.calls g s0_0 s0_1 4 s true _ _ w0 _ HIh.out HBh.out HA.out).mono ?_; rintro e w1 ⟨rfl, hi, hb, hk⟩)
    go_loop [6, 18] (fun n c => ∃ k : Nat, k ≤ 4 ∧ c = .int .i64 k ∧ n = .int .i64 (acc4 s k)) (fun _ c => 4 - (intOf c).toNat)
    case atStart => exact ⟨0, by omega, rfl, rfl⟩
    case round =>
     obtain ⟨k, hk4, rfl, rfl⟩ := hrel
     by_cases hlt : k < 4
     ·go_wp2_with (go_at_call 59; refine (code_Reader_Num_at s _ _ _ (by omega) (by omega) (by omega) (by simp)).mono ?_; rintro e w2 ⟨rfl, rfl⟩)
      go_round
      case rel => exact ⟨k + 1, by omega, by go_num, rfl⟩
      case measure => simp [intOf]; omega
     ·obtain rfl : k = 4 := by omega
      have hd : decide (2147483647 < acc4 s 4) = true := by rw [acc4_num]; exact decide_eq_true hgb.out
      go_wp2_with (go_at_call 60; refine (code_Reader_fail.calls g _ _ 6 _ _ w0 _ (hi.alloc _) (hb.alloc hb.size _) HA2.out).mono ?_; rintro e w2 ⟨rfl, hi2, hb2, hk2⟩)
      go_ret
      exact ⟨rfl, hi2, hb2, KeepBut.trans (keep_alloc hk _) hk2 (.inl rfl)⟩
   ·rw [if_neg hgt] at H
    simp only [Option.some.injEq, Prod.mk.injEq] at H
    obtain ⟨rfl, rfl, rfl⟩ := H
    have hgb := Aside0.mk hgt
    clear hgt
    go_enter Try.func22, Try.ntmps22
    go_wp2_with (go_at_call 58; refine (code_Reader_take.calls g s0_0 s0_1 4 s true _ _ w0 _ HIh.out HBh.out HA.out).mono ?_; rintro e w1 ⟨rfl, hi, hb, hk⟩)
    go_loop [6, 18] (fun n c => ∃ k : Nat, k ≤ 4 ∧ c = .int .i64 k ∧ n = .int .i64 (acc4 s k)) (fun _ c => 4 - (intOf c).toNat)
    case atStart => exact ⟨0, by omega, rfl, rfl⟩
    case round =>
     obtain ⟨k, hk4, rfl, rfl⟩ := hrel
     by_cases hlt : k < 4
     ·go_wp2_with (go_at_call 59; refine (code_Reader_Num_at s _ _ _ (by omega) (by omega) (by omega) (by simp)).mono ?_; rintro e w2 ⟨rfl, rfl⟩)
      go_round
      case rel => exact ⟨k + 1, by omega, by go_num, rfl⟩
      case measure => simp [intOf]; omega
     ·obtain rfl : k = 4 := by omega
      have hd : decide (2147483647 < acc4 s 4) = false := by rw [acc4_num]; exact decide_eq_false (Int.not_lt.2 hgb.out)
      go_wp2
      go_ret
      exact ⟨by show Ending.returned (.int .i64 (acc4 s 4)) = _; rw [acc4_num], hi.alloc _, hb.alloc hb.size _, keep_alloc hk _⟩
  ·rw [if_neg h4] at H; exact absurd H (by simp)

/-! ### code_Reader_most: function 62 -/
def code_Reader_most.f (s0_0 : ByteArray) (s0_1 : Int) (a1 : Int) : Option (Int × Bool × ByteArray × Int) := (code_Reader_Num.f s0_0 s0_1).bind fun bt118 => (if bt118.2.2 = 0 then (if bt118.1 > a1 then ((code_Reader_fail.f bt118.2.1 bt118.2.2 6).bind fun bt121 => (some (bt118.1, (bt121.2 == 0), bt121.1, bt121.2))) else (some (bt118.1, (bt118.2.2 == 0), bt118.2.1, bt118.2.2))) else (some (bt118.1, (bt118.2.2 == 0), bt118.2.1, bt118.2.2)))
set_option maxHeartbeats 8000000 in
set_option maxRecDepth 100000 in
theorem code_Reader_most.calls (g : Nat) (s0_0 : ByteArray) (s0_1 : Int) (a1 : Int) (r1 : Int) (r2 : Bool) (r3 : ByteArray) (r4 : Int) (w0 w : World) (hI : IsS45 w0 w g s0_0 s0_1) (hB : Below w0.heap.size w0 w) (h : code_Reader_most.f s0_0 s0_1 a1 = some (r1, r2, r3, r4)) :
  Calls Try.prog 62 #[.pointer (some ⟨g, 0, none⟩), .int .i64 a1] w fun e w' => e = .returned (.tuple #[.int .i64 r1, .bool r2]) ∧ IsS45 w0 w' g r3 r4 ∧ Below w0.heap.size w0 w' ∧ KeepBut w w' g none := by
 have HI0 := Aside0.mk hI
 have HK := Aside0.mk (KeepBut.refl w g none)
 have HL := Aside0.mk hB.size
 clear hI
 have HW0 := Aside0.mk hB.size
 have HB := Aside0.mk hB
 clear hB
 have H : ((code_Reader_Num.f s0_0 s0_1).bind fun bt118 => (if bt118.2.2 = 0 then (if bt118.1 > a1 then ((code_Reader_fail.f bt118.2.1 bt118.2.2 6).bind fun bt121 => (some (bt118.1, (bt121.2 == 0), bt121.1, bt121.2))) else (some (bt118.1, (bt118.2.2 == 0), bt118.2.1, bt118.2.2))) else (some (bt118.1, (bt118.2.2 == 0), bt118.2.1, bt118.2.2)))) = some (r1, r2, r3, r4) := h
 clear h
 replace H := Option.bind_eq_some_iff.mp H
 obtain ⟨⟨t118, t119, t120⟩, A30, H⟩ := H
 replace H : (if t120 = 0 then (if t118 > a1 then ((code_Reader_fail.f t119 t120 6).bind fun bt121 => (some (t118, (bt121.2 == 0), bt121.1, bt121.2))) else (some (t118, (t120 == 0), t119, t120))) else (some (t118, (t120 == 0), t119, t120))) = some (r1, r2, r3, r4) := H
 have A3 := Aside0.mk A30
 clear A30
 by_cases c4 : t120 = 0
 ·rw [if_pos c4] at H
  have c4b0 : (t120 == 0) = true := beq_iff_eq.mpr c4
  have c4b1 : (t120 != 0) = false := bne_eq_false_iff_eq.mpr c4
  clear c4
  by_cases c5 : t118 > a1
  ·rw [if_pos c5] at H
   have c5b0 : decide (a1 < t118) = true := decide_eq_true c5
   clear c5
   replace H := Option.bind_eq_some_iff.mp H
   obtain ⟨⟨t121, t122⟩, A60, H⟩ := H
   replace H : (some (t118, (t122 == 0), t121, t122)) = some (r1, r2, r3, r4) := H
   have A6 := Aside0.mk A60
   clear A60
   simp only [Option.some.injEq, Prod.mk.injEq] at H
   obtain ⟨rfl, rfl, rfl, rfl⟩ := H
   go_enter Try.func62, Try.ntmps62
   go_wp2_with (first | (go_at_call 22; (with_reducible refine (code_Reader_Num.calls g s0_0 s0_1 t118 t119 t120 w0 _ ?side1 ?side2 A3.out).mono ?_); (case side1 => repeat (first | (with_reducible first | exact HI0.out | apply IsS45.alloc | apply IsS45.drewN | apply IsS45.drew | apply IsS45.set_0 | apply IsS45.set_1) | exact HI0.out)); (case side2 => repeat (first | (with_reducible first | exact HB.out | apply below_alloc | apply pw_below_drewN | apply below_drew1 | refine below_set ?_ (IsS45.ge HI0.out)) | exact HB.out)); rintro e w7 ⟨rfl, hi, hb, hk⟩; replace HK := Aside0.mk (KeepBut.trans (by repeat (first | (with_reducible first | exact HK.out | apply KeepBut.set_ | apply keep_drewN | apply keep_drew | apply keep_alloc) | exact HK.out)) hk (.inl rfl)); replace HB := Aside0.mk (hb); replace HI0 := Aside0.mk (hi); (try clear hb); (try clear hb2); (try clear hk); (try clear hi); obtain ⟨HGz8, hgz8⟩ := HI0.out; have hcz8_0 := cellS45_0 HGz8; have hcz8_1 := cellS45_1 HGz8; have hfz8_0 := blk_frozen HGz8 0; have hfz8_1 := blk_frozen HGz8 1; clear HGz8 hgz8) | (go_at_call 60; (with_reducible refine (code_Reader_fail.calls g t119 t120 6 t121 t122 w0 _ ?side1 ?side2 A6.out).mono ?_); (case side1 => repeat (first | (with_reducible first | exact HI0.out | apply IsS45.alloc | apply IsS45.drewN | apply IsS45.drew | apply IsS45.set_0 | apply IsS45.set_1) | exact HI0.out)); (case side2 => repeat (first | (with_reducible first | exact HB.out | apply below_alloc | apply pw_below_drewN | apply below_drew1 | refine below_set ?_ (IsS45.ge HI0.out)) | exact HB.out)); rintro e w9 ⟨rfl, hi, hb, hk⟩; replace HK := Aside0.mk (KeepBut.trans (by repeat (first | (with_reducible first | exact HK.out | apply KeepBut.set_ | apply keep_drewN | apply keep_drew | apply keep_alloc) | exact HK.out)) hk (.inl rfl)); replace HB := Aside0.mk (hb); replace HI0 := Aside0.mk (hi); (try clear hb); (try clear hb2); (try clear hk); (try clear hi); obtain ⟨HGz10, hgz10⟩ := HI0.out; have hcz10_0 := cellS45_0 HGz10; have hcz10_1 := cellS45_1 HGz10; have hfz10_0 := blk_frozen HGz10 0; have hfz10_1 := blk_frozen HGz10 1; clear HGz10 hgz10))
   repeat (go_quiet (first | (go_at_call 22; (with_reducible refine (code_Reader_Num.calls g s0_0 s0_1 t118 t119 t120 w0 _ ?side1 ?side2 A3.out).mono ?_); (case side1 => repeat (first | (with_reducible first | exact HI0.out | apply IsS45.alloc | apply IsS45.drewN | apply IsS45.drew | apply IsS45.set_0 | apply IsS45.set_1) | exact HI0.out)); (case side2 => repeat (first | (with_reducible first | exact HB.out | apply below_alloc | apply pw_below_drewN | apply below_drew1 | refine below_set ?_ (IsS45.ge HI0.out)) | exact HB.out)); rintro e w7 ⟨rfl, hi, hb, hk⟩; replace HK := Aside0.mk (KeepBut.trans (by repeat (first | (with_reducible first | exact HK.out | apply KeepBut.set_ | apply keep_drewN | apply keep_drew | apply keep_alloc) | exact HK.out)) hk (.inl rfl)); replace HB := Aside0.mk (hb); replace HI0 := Aside0.mk (hi); (try clear hb); (try clear hb2); (try clear hk); (try clear hi); obtain ⟨HGz8, hgz8⟩ := HI0.out; have hcz8_0 := cellS45_0 HGz8; have hcz8_1 := cellS45_1 HGz8; have hfz8_0 := blk_frozen HGz8 0; have hfz8_1 := blk_frozen HGz8 1; clear HGz8 hgz8) | (go_at_call 60; (with_reducible refine (code_Reader_fail.calls g t119 t120 6 t121 t122 w0 _ ?side1 ?side2 A6.out).mono ?_); (case side1 => repeat (first | (with_reducible first | exact HI0.out | apply IsS45.alloc | apply IsS45.drewN | apply IsS45.drew | apply IsS45.set_0 | apply IsS45.set_1) | exact HI0.out)); (case side2 => repeat (first | (with_reducible first | exact HB.out | apply below_alloc | apply pw_below_drewN | apply below_drew1 | refine below_set ?_ (IsS45.ge HI0.out)) | exact HB.out)); rintro e w9 ⟨rfl, hi, hb, hk⟩; replace HK := Aside0.mk (KeepBut.trans (by repeat (first | (with_reducible first | exact HK.out | apply KeepBut.set_ | apply keep_drewN | apply keep_drew | apply keep_alloc) | exact HK.out)) hk (.inl rfl)); replace HB := Aside0.mk (hb); replace HI0 := Aside0.mk (hi); (try clear hb); (try clear hb2); (try clear hk); (try clear hi); obtain ⟨HGz10, hgz10⟩ := HI0.out; have hcz10_0 := cellS45_0 HGz10; have hcz10_1 := cellS45_1 HGz10; have hfz10_0 := blk_frozen HGz10 0; have hfz10_1 := blk_frozen HGz10 1; clear HGz10 hgz10)); try go_wp2_with (first | (go_at_call 22; (with_reducible refine (code_Reader_Num.calls g s0_0 s0_1 t118 t119 t120 w0 _ ?side1 ?side2 A3.out).mono ?_); (case side1 => repeat (first | (with_reducible first | exact HI0.out | apply IsS45.alloc | apply IsS45.drewN | apply IsS45.drew | apply IsS45.set_0 | apply IsS45.set_1) | exact HI0.out)); (case side2 => repeat (first | (with_reducible first | exact HB.out | apply below_alloc | apply pw_below_drewN | apply below_drew1 | refine below_set ?_ (IsS45.ge HI0.out)) | exact HB.out)); rintro e w7 ⟨rfl, hi, hb, hk⟩; replace HK := Aside0.mk (KeepBut.trans (by repeat (first | (with_reducible first | exact HK.out | apply KeepBut.set_ | apply keep_drewN | apply keep_drew | apply keep_alloc) | exact HK.out)) hk (.inl rfl)); replace HB := Aside0.mk (hb); replace HI0 := Aside0.mk (hi); (try clear hb); (try clear hb2); (try clear hk); (try clear hi); obtain ⟨HGz8, hgz8⟩ := HI0.out; have hcz8_0 := cellS45_0 HGz8; have hcz8_1 := cellS45_1 HGz8; have hfz8_0 := blk_frozen HGz8 0; have hfz8_1 := blk_frozen HGz8 1; clear HGz8 hgz8) | (go_at_call 60; (with_reducible refine (code_Reader_fail.calls g t119 t120 6 t121 t122 w0 _ ?side1 ?side2 A6.out).mono ?_); (case side1 => repeat (first | (with_reducible first | exact HI0.out | apply IsS45.alloc | apply IsS45.drewN | apply IsS45.drew | apply IsS45.set_0 | apply IsS45.set_1) | exact HI0.out)); (case side2 => repeat (first | (with_reducible first | exact HB.out | apply below_alloc | apply pw_below_drewN | apply below_drew1 | refine below_set ?_ (IsS45.ge HI0.out)) | exact HB.out)); rintro e w9 ⟨rfl, hi, hb, hk⟩; replace HK := Aside0.mk (KeepBut.trans (by repeat (first | (with_reducible first | exact HK.out | apply KeepBut.set_ | apply keep_drewN | apply keep_drew | apply keep_alloc) | exact HK.out)) hk (.inl rfl)); replace HB := Aside0.mk (hb); replace HI0 := Aside0.mk (hi); (try clear hb); (try clear hb2); (try clear hk); (try clear hi); obtain ⟨HGz10, hgz10⟩ := HI0.out; have hcz10_0 := cellS45_0 HGz10; have hcz10_1 := cellS45_1 HGz10; have hfz10_0 := blk_frozen HGz10 0; have hfz10_1 := blk_frozen HGz10 1; clear HGz10 hgz10)))
   go_ret2
   exact ⟨er_, by repeat (first | (with_reducible first | exact HI0.out | apply IsS45.alloc | apply IsS45.drewN | apply IsS45.drew | apply IsS45.set_0 | apply IsS45.set_1) | exact HI0.out), by repeat (first | (with_reducible first | exact HB.out | apply below_alloc | apply pw_below_drewN | apply below_drew1 | refine below_set ?_ (IsS45.ge HI0.out)) | exact HB.out), by repeat (first | (with_reducible first | exact HK.out | apply KeepBut.set_ | apply keep_drewN | apply keep_drew | apply keep_alloc) | exact HK.out)⟩
  ·rw [if_neg c5] at H
   have c5b0 : decide (a1 < t118) = false := decide_eq_false c5
   clear c5
   simp only [Option.some.injEq, Prod.mk.injEq] at H
   obtain ⟨rfl, rfl, rfl, rfl⟩ := H
   go_enter Try.func62, Try.ntmps62
   go_wp2_with (first | (go_at_call 22; (with_reducible refine (code_Reader_Num.calls g s0_0 s0_1 t118 t119 t120 w0 _ ?side1 ?side2 A3.out).mono ?_); (case side1 => repeat (first | (with_reducible first | exact HI0.out | apply IsS45.alloc | apply IsS45.drewN | apply IsS45.drew | apply IsS45.set_0 | apply IsS45.set_1) | exact HI0.out)); (case side2 => repeat (first | (with_reducible first | exact HB.out | apply below_alloc | apply pw_below_drewN | apply below_drew1 | refine below_set ?_ (IsS45.ge HI0.out)) | exact HB.out)); rintro e w11 ⟨rfl, hi, hb, hk⟩; replace HK := Aside0.mk (KeepBut.trans (by repeat (first | (with_reducible first | exact HK.out | apply KeepBut.set_ | apply keep_drewN | apply keep_drew | apply keep_alloc) | exact HK.out)) hk (.inl rfl)); replace HB := Aside0.mk (hb); replace HI0 := Aside0.mk (hi); (try clear hb); (try clear hb2); (try clear hk); (try clear hi); obtain ⟨HGz12, hgz12⟩ := HI0.out; have hcz12_0 := cellS45_0 HGz12; have hcz12_1 := cellS45_1 HGz12; have hfz12_0 := blk_frozen HGz12 0; have hfz12_1 := blk_frozen HGz12 1; clear HGz12 hgz12))
   repeat (go_quiet (first | (go_at_call 22; (with_reducible refine (code_Reader_Num.calls g s0_0 s0_1 t118 t119 t120 w0 _ ?side1 ?side2 A3.out).mono ?_); (case side1 => repeat (first | (with_reducible first | exact HI0.out | apply IsS45.alloc | apply IsS45.drewN | apply IsS45.drew | apply IsS45.set_0 | apply IsS45.set_1) | exact HI0.out)); (case side2 => repeat (first | (with_reducible first | exact HB.out | apply below_alloc | apply pw_below_drewN | apply below_drew1 | refine below_set ?_ (IsS45.ge HI0.out)) | exact HB.out)); rintro e w11 ⟨rfl, hi, hb, hk⟩; replace HK := Aside0.mk (KeepBut.trans (by repeat (first | (with_reducible first | exact HK.out | apply KeepBut.set_ | apply keep_drewN | apply keep_drew | apply keep_alloc) | exact HK.out)) hk (.inl rfl)); replace HB := Aside0.mk (hb); replace HI0 := Aside0.mk (hi); (try clear hb); (try clear hb2); (try clear hk); (try clear hi); obtain ⟨HGz12, hgz12⟩ := HI0.out; have hcz12_0 := cellS45_0 HGz12; have hcz12_1 := cellS45_1 HGz12; have hfz12_0 := blk_frozen HGz12 0; have hfz12_1 := blk_frozen HGz12 1; clear HGz12 hgz12)); try go_wp2_with (first | (go_at_call 22; (with_reducible refine (code_Reader_Num.calls g s0_0 s0_1 t118 t119 t120 w0 _ ?side1 ?side2 A3.out).mono ?_); (case side1 => repeat (first | (with_reducible first | exact HI0.out | apply IsS45.alloc | apply IsS45.drewN | apply IsS45.drew | apply IsS45.set_0 | apply IsS45.set_1) | exact HI0.out)); (case side2 => repeat (first | (with_reducible first | exact HB.out | apply below_alloc | apply pw_below_drewN | apply below_drew1 | refine below_set ?_ (IsS45.ge HI0.out)) | exact HB.out)); rintro e w11 ⟨rfl, hi, hb, hk⟩; replace HK := Aside0.mk (KeepBut.trans (by repeat (first | (with_reducible first | exact HK.out | apply KeepBut.set_ | apply keep_drewN | apply keep_drew | apply keep_alloc) | exact HK.out)) hk (.inl rfl)); replace HB := Aside0.mk (hb); replace HI0 := Aside0.mk (hi); (try clear hb); (try clear hb2); (try clear hk); (try clear hi); obtain ⟨HGz12, hgz12⟩ := HI0.out; have hcz12_0 := cellS45_0 HGz12; have hcz12_1 := cellS45_1 HGz12; have hfz12_0 := blk_frozen HGz12 0; have hfz12_1 := blk_frozen HGz12 1; clear HGz12 hgz12)))
   go_ret2
   exact ⟨er_, by repeat (first | (with_reducible first | exact HI0.out | apply IsS45.alloc | apply IsS45.drewN | apply IsS45.drew | apply IsS45.set_0 | apply IsS45.set_1) | exact HI0.out), by repeat (first | (with_reducible first | exact HB.out | apply below_alloc | apply pw_below_drewN | apply below_drew1 | refine below_set ?_ (IsS45.ge HI0.out)) | exact HB.out), by repeat (first | (with_reducible first | exact HK.out | apply KeepBut.set_ | apply keep_drewN | apply keep_drew | apply keep_alloc) | exact HK.out)⟩
 ·rw [if_neg c4] at H
  have c4b0 : (t120 == 0) = false := beq_eq_false_iff_ne.mpr c4
  have c4b1 : (t120 != 0) = true := bne_iff_ne.mpr c4
  simp only [Option.some.injEq, Prod.mk.injEq] at H
  obtain ⟨rfl, rfl, rfl, rfl⟩ := H
  go_enter Try.func62, Try.ntmps62
  go_wp2_with (first | (go_at_call 22; (with_reducible refine (code_Reader_Num.calls g s0_0 s0_1 t118 t119 t120 w0 _ ?side1 ?side2 A3.out).mono ?_); (case side1 => repeat (first | (with_reducible first | exact HI0.out | apply IsS45.alloc | apply IsS45.drewN | apply IsS45.drew | apply IsS45.set_0 | apply IsS45.set_1) | exact HI0.out)); (case side2 => repeat (first | (with_reducible first | exact HB.out | apply below_alloc | apply pw_below_drewN | apply below_drew1 | refine below_set ?_ (IsS45.ge HI0.out)) | exact HB.out)); rintro e w13 ⟨rfl, hi, hb, hk⟩; replace HK := Aside0.mk (KeepBut.trans (by repeat (first | (with_reducible first | exact HK.out | apply KeepBut.set_ | apply keep_drewN | apply keep_drew | apply keep_alloc) | exact HK.out)) hk (.inl rfl)); replace HB := Aside0.mk (hb); replace HI0 := Aside0.mk (hi); (try clear hb); (try clear hb2); (try clear hk); (try clear hi); obtain ⟨HGz14, hgz14⟩ := HI0.out; have hcz14_0 := cellS45_0 HGz14; have hcz14_1 := cellS45_1 HGz14; have hfz14_0 := blk_frozen HGz14 0; have hfz14_1 := blk_frozen HGz14 1; clear HGz14 hgz14))
  repeat (go_quiet (first | (go_at_call 22; (with_reducible refine (code_Reader_Num.calls g s0_0 s0_1 t118 t119 t120 w0 _ ?side1 ?side2 A3.out).mono ?_); (case side1 => repeat (first | (with_reducible first | exact HI0.out | apply IsS45.alloc | apply IsS45.drewN | apply IsS45.drew | apply IsS45.set_0 | apply IsS45.set_1) | exact HI0.out)); (case side2 => repeat (first | (with_reducible first | exact HB.out | apply below_alloc | apply pw_below_drewN | apply below_drew1 | refine below_set ?_ (IsS45.ge HI0.out)) | exact HB.out)); rintro e w13 ⟨rfl, hi, hb, hk⟩; replace HK := Aside0.mk (KeepBut.trans (by repeat (first | (with_reducible first | exact HK.out | apply KeepBut.set_ | apply keep_drewN | apply keep_drew | apply keep_alloc) | exact HK.out)) hk (.inl rfl)); replace HB := Aside0.mk (hb); replace HI0 := Aside0.mk (hi); (try clear hb); (try clear hb2); (try clear hk); (try clear hi); obtain ⟨HGz14, hgz14⟩ := HI0.out; have hcz14_0 := cellS45_0 HGz14; have hcz14_1 := cellS45_1 HGz14; have hfz14_0 := blk_frozen HGz14 0; have hfz14_1 := blk_frozen HGz14 1; clear HGz14 hgz14)); try go_wp2_with (first | (go_at_call 22; (with_reducible refine (code_Reader_Num.calls g s0_0 s0_1 t118 t119 t120 w0 _ ?side1 ?side2 A3.out).mono ?_); (case side1 => repeat (first | (with_reducible first | exact HI0.out | apply IsS45.alloc | apply IsS45.drewN | apply IsS45.drew | apply IsS45.set_0 | apply IsS45.set_1) | exact HI0.out)); (case side2 => repeat (first | (with_reducible first | exact HB.out | apply below_alloc | apply pw_below_drewN | apply below_drew1 | refine below_set ?_ (IsS45.ge HI0.out)) | exact HB.out)); rintro e w13 ⟨rfl, hi, hb, hk⟩; replace HK := Aside0.mk (KeepBut.trans (by repeat (first | (with_reducible first | exact HK.out | apply KeepBut.set_ | apply keep_drewN | apply keep_drew | apply keep_alloc) | exact HK.out)) hk (.inl rfl)); replace HB := Aside0.mk (hb); replace HI0 := Aside0.mk (hi); (try clear hb); (try clear hb2); (try clear hk); (try clear hi); obtain ⟨HGz14, hgz14⟩ := HI0.out; have hcz14_0 := cellS45_0 HGz14; have hcz14_1 := cellS45_1 HGz14; have hfz14_0 := blk_frozen HGz14 0; have hfz14_1 := blk_frozen HGz14 1; clear HGz14 hgz14)))
  go_ret2
  exact ⟨er_, by repeat (first | (with_reducible first | exact HI0.out | apply IsS45.alloc | apply IsS45.drewN | apply IsS45.drew | apply IsS45.set_0 | apply IsS45.set_1) | exact HI0.out), by repeat (first | (with_reducible first | exact HB.out | apply below_alloc | apply pw_below_drewN | apply below_drew1 | refine below_set ?_ (IsS45.ge HI0.out)) | exact HB.out), by repeat (first | (with_reducible first | exact HK.out | apply KeepBut.set_ | apply keep_drewN | apply keep_drew | apply keep_alloc) | exact HK.out)⟩

/-! ### code_Reader_Text: function 24 -/
def code_Reader_Text.f (s0_0 : ByteArray) (s0_1 : Int) (a1 : Int) : Option (ByteArray × ByteArray × Int) := (code_Reader_most.f s0_0 s0_1 a1).bind fun bt123 => (if bt123.2.1 = true then ((code_Reader_take.f bt123.2.2.1 bt123.2.2.2 bt123.1).bind fun bt127 => (some (bt127.1, bt127.2.2.1, bt127.2.2.2))) else (some ((⟨#[]⟩ : ByteArray), bt123.2.2.1, bt123.2.2.2)))
set_option maxHeartbeats 8000000 in
set_option maxRecDepth 100000 in
theorem code_Reader_Text.calls (g : Nat) (s0_0 : ByteArray) (s0_1 : Int) (a1 : Int) (r1 : ByteArray) (r2 : ByteArray) (r3 : Int) (w0 w : World) (hI : IsS45 w0 w g s0_0 s0_1) (hB : Below w0.heap.size w0 w) (h : code_Reader_Text.f s0_0 s0_1 a1 = some (r1, r2, r3)) :
  Calls Try.prog 24 #[.pointer (some ⟨g, 0, none⟩), .int .i64 a1] w fun e w' => e = .returned (.string r1) ∧ IsS45 w0 w' g r2 r3 ∧ Below w0.heap.size w0 w' ∧ KeepBut w w' g none := by
 have hpn30 := fun (W : World) (p : Option Addr) => run_eql_pointer_nil (P := Try.prog) W 30 p (by kernel_rfl)
 have HI0 := Aside0.mk hI
 have HK := Aside0.mk (KeepBut.refl w g none)
 have HL := Aside0.mk hB.size
 clear hI
 have HW0 := Aside0.mk hB.size
 have HB := Aside0.mk hB
 clear hB
 have H : ((code_Reader_most.f s0_0 s0_1 a1).bind fun bt123 => (if bt123.2.1 = true then ((code_Reader_take.f bt123.2.2.1 bt123.2.2.2 bt123.1).bind fun bt127 => (some (bt127.1, bt127.2.2.1, bt127.2.2.2))) else (some ((⟨#[]⟩ : ByteArray), bt123.2.2.1, bt123.2.2.2)))) = some (r1, r2, r3) := h
 clear h
 replace H := Option.bind_eq_some_iff.mp H
 obtain ⟨⟨t123, t124, t125, t126⟩, A30, H⟩ := H
 replace H : (if t124 = true then ((code_Reader_take.f t125 t126 t123).bind fun bt127 => (some (bt127.1, bt127.2.2.1, bt127.2.2.2))) else (some ((⟨#[]⟩ : ByteArray), t125, t126))) = some (r1, r2, r3) := H
 have A3 := Aside0.mk A30
 clear A30
 by_cases c4 : t124 = true
 ·subst c4
  have H1 : ((code_Reader_take.f t125 t126 t123).bind fun bt127 => (some (bt127.1, bt127.2.2.1, bt127.2.2.2))) = some (r1, r2, r3) := by rw [if_pos rfl] at H; exact H
  clear H
  have H := H1
  clear H1
  replace H := Option.bind_eq_some_iff.mp H
  obtain ⟨⟨t127, t128, t129, t130⟩, A50, H⟩ := H
  replace H : (some (t127, t129, t130)) = some (r1, r2, r3) := H
  have A5 := Aside0.mk A50
  clear A50
  simp only [Option.some.injEq, Prod.mk.injEq] at H
  obtain ⟨rfl, rfl, rfl⟩ := H
  go_enter Try.func24, Try.ntmps24
  go_wp2_with (first | ((with_reducible refine gate_callee (f := 62) rfl ?_); refine ge_ (some 14) rfl rfl Try.func62 (by kernel_rfl) rfl #[.pointer (some ⟨g, 0, none⟩), .int .i64 a1] rfl (h := ?_); (with_reducible refine (code_Reader_most.calls g s0_0 s0_1 a1 t123 true t125 t126 w0 _ ?side1 ?side2 A3.out).mono ?_); (case side1 => repeat (first | (with_reducible first | exact HI0.out | apply IsS45.alloc | apply IsS45.drewN | apply IsS45.drew | apply IsS45.set_0 | apply IsS45.set_1) | exact HI0.out)); (case side2 => repeat (first | (with_reducible first | exact HB.out | apply below_alloc | apply pw_below_drewN | apply below_drew1 | refine below_set ?_ (IsS45.ge HI0.out)) | exact HB.out)); rintro e w6 ⟨rfl, hi, hb, hk⟩; refine ⟨_, rfl, ?_⟩; replace HK := Aside0.mk (KeepBut.trans (by repeat (first | (with_reducible first | exact HK.out | apply KeepBut.set_ | apply keep_drewN | apply keep_drew | apply keep_alloc) | exact HK.out)) hk (.inl rfl)); replace HB := Aside0.mk (hb); replace HI0 := Aside0.mk (hi); (try clear hb); (try clear hb2); (try clear hk); (try clear hi)) | ((with_reducible refine gate_callee (f := 58) rfl ?_); refine ge_ (some 22) rfl rfl Try.func58 (by kernel_rfl) rfl #[.pointer (some ⟨g, 0, none⟩), .int .i64 t123] rfl (h := ?_); (with_reducible refine (code_Reader_take.calls g t125 t126 t123 t127 t128 t129 t130 w0 _ ?side1 ?side2 A5.out).mono ?_); (case side1 => repeat (first | (with_reducible first | exact HI0.out | apply IsS45.alloc | apply IsS45.drewN | apply IsS45.drew | apply IsS45.set_0 | apply IsS45.set_1) | exact HI0.out)); (case side2 => repeat (first | (with_reducible first | exact HB.out | apply below_alloc | apply pw_below_drewN | apply below_drew1 | refine below_set ?_ (IsS45.ge HI0.out)) | exact HB.out)); rintro e w7 ⟨rfl, hi, hb, hk⟩; refine ⟨_, rfl, ?_⟩; replace HK := Aside0.mk (KeepBut.trans (by repeat (first | (with_reducible first | exact HK.out | apply KeepBut.set_ | apply keep_drewN | apply keep_drew | apply keep_alloc) | exact HK.out)) hk (.inl rfl)); replace HB := Aside0.mk (hb); replace HI0 := Aside0.mk (hi); (try clear hb); (try clear hb2); (try clear hk); (try clear hi)))
  go_ret
  exact ⟨er_, by repeat (first | (with_reducible first | exact HI0.out | apply IsS45.alloc | apply IsS45.drewN | apply IsS45.drew | apply IsS45.set_0 | apply IsS45.set_1) | exact HI0.out), by repeat (first | (with_reducible first | exact HB.out | apply below_alloc | apply pw_below_drewN | apply below_drew1 | refine below_set ?_ (IsS45.ge HI0.out)) | exact HB.out), by repeat (first | (with_reducible first | exact HK.out | apply KeepBut.set_ | apply keep_drewN | apply keep_drew | apply keep_alloc) | exact HK.out)⟩
 ·replace c4 := Bool.eq_false_iff.mpr c4
  subst c4
  have H1 : (some ((⟨#[]⟩ : ByteArray), t125, t126)) = some (r1, r2, r3) := by rw [if_neg (show ¬ (false = true) by decide)] at H; exact H
  clear H
  have H := H1
  clear H1
  simp only [Option.some.injEq, Prod.mk.injEq] at H
  obtain ⟨rfl, rfl, rfl⟩ := H
  go_enter Try.func24, Try.ntmps24
  go_wp2_with (first | ((with_reducible refine gate_callee (f := 62) rfl ?_); refine ge_ (some 14) rfl rfl Try.func62 (by kernel_rfl) rfl #[.pointer (some ⟨g, 0, none⟩), .int .i64 a1] rfl (h := ?_); (with_reducible refine (code_Reader_most.calls g s0_0 s0_1 a1 t123 false t125 t126 w0 _ ?side1 ?side2 A3.out).mono ?_); (case side1 => repeat (first | (with_reducible first | exact HI0.out | apply IsS45.alloc | apply IsS45.drewN | apply IsS45.drew | apply IsS45.set_0 | apply IsS45.set_1) | exact HI0.out)); (case side2 => repeat (first | (with_reducible first | exact HB.out | apply below_alloc | apply pw_below_drewN | apply below_drew1 | refine below_set ?_ (IsS45.ge HI0.out)) | exact HB.out)); rintro e w8 ⟨rfl, hi, hb, hk⟩; refine ⟨_, rfl, ?_⟩; replace HK := Aside0.mk (KeepBut.trans (by repeat (first | (with_reducible first | exact HK.out | apply KeepBut.set_ | apply keep_drewN | apply keep_drew | apply keep_alloc) | exact HK.out)) hk (.inl rfl)); replace HB := Aside0.mk (hb); replace HI0 := Aside0.mk (hi); (try clear hb); (try clear hb2); (try clear hk); (try clear hi)))
  go_ret
  exact ⟨er_, by repeat (first | (with_reducible first | exact HI0.out | apply IsS45.alloc | apply IsS45.drewN | apply IsS45.drew | apply IsS45.set_0 | apply IsS45.set_1) | exact HI0.out), by repeat (first | (with_reducible first | exact HB.out | apply below_alloc | apply pw_below_drewN | apply below_drew1 | refine below_set ?_ (IsS45.ge HI0.out)) | exact HB.out), by repeat (first | (with_reducible first | exact HK.out | apply KeepBut.set_ | apply keep_drewN | apply keep_drew | apply keep_alloc) | exact HK.out)⟩

/-! ### code_Reader_Err: function 30 -/
def code_Reader_Err.f (s0_0 : ByteArray) (s0_1 : Int) : Option (Int × ByteArray × Int) := some (s0_1, s0_0, s0_1)
set_option maxHeartbeats 8000000 in
set_option maxRecDepth 100000 in
theorem code_Reader_Err.calls (g : Nat) (s0_0 : ByteArray) (s0_1 : Int) (r1 : Int) (r2 : ByteArray) (r3 : Int) (w0 w : World) (hI : IsS45 w0 w g s0_0 s0_1) (hB : Below w0.heap.size w0 w) (h : code_Reader_Err.f s0_0 s0_1 = some (r1, r2, r3)) :
  Calls Try.prog 30 #[.pointer (some ⟨g, 0, none⟩)] w fun e w' => e = .returned (.int .i64 r1) ∧ IsS45 w0 w' g r2 r3 ∧ Below w0.heap.size w0 w' ∧ KeepBut w w' g none := by
 have hpn30 := fun (W : World) (p : Option Addr) => run_eql_pointer_nil (P := Try.prog) W 30 p (by kernel_rfl)
 have HI0 := Aside0.mk hI
 have HK := Aside0.mk (KeepBut.refl w g none)
 have HL := Aside0.mk hB.size
 clear hI
 have HW0 := Aside0.mk hB.size
 have HB := Aside0.mk hB
 clear hB
 have H : (some (s0_1, s0_0, s0_1)) = some (r1, r2, r3) := h
 clear h
 simp only [Option.some.injEq, Prod.mk.injEq] at H
 obtain ⟨rfl, rfl, rfl⟩ := H
 obtain ⟨HGz2, hgz2⟩ := HI0.out
 have hcz2_0 := cellS45_0 HGz2
 have hcz2_1 := cellS45_1 HGz2
 have hfz2_0 := blk_frozen HGz2 0
 have hfz2_1 := blk_frozen HGz2 1
 clear HGz2 hgz2
 go_enter Try.func30, Try.ntmps30
 go_wp2
 go_ret
 exact ⟨er_, by repeat (first | (with_reducible first | exact HI0.out | apply IsS45.alloc | apply IsS45.drewN | apply IsS45.drew | apply IsS45.set_0 | apply IsS45.set_1) | exact HI0.out), by repeat (first | (with_reducible first | exact HB.out | apply below_alloc | apply pw_below_drewN | apply below_drew1 | refine below_set ?_ (IsS45.ge HI0.out)) | exact HB.out), by repeat (first | (with_reducible first | exact HK.out | apply KeepBut.set_ | apply keep_drewN | apply keep_drew | apply keep_alloc) | exact HK.out)⟩

/-! ### calamuslaw01_lives: function 20 -/
def calamuslaw01_lives.f (k : Nat)  : Option (Bool) := (code_NewReader.f (⟨#[2, 0, 0, 0, 97, 98, 1]⟩ : ByteArray)).bind fun bt131 => ((code_Reader_Text.f bt131.1 bt131.2 2).bind fun bt134 => ((code_Reader_Num.f bt134.2.1 bt134.2.2).bind fun bt137 => ((code_Num.f k 258).bind fun t140 => (if t140.toList = ([2, 1, 0, 0] : List UInt8) then ((code_Text.f k (⟨#[97, 98]⟩ : ByteArray)).bind fun t141 => (if t141.toList = ([2, 0, 0, 0, 97, 98] : List UInt8) then (if bt134.1.toList = ([97, 98] : List UInt8) then (if bt137.1 = 0 then ((code_Reader_Err.f bt137.2.1 bt137.2.2).bind fun bt142 => (some (bt142.1 == 2))) else (some false)) else (some false)) else (some false))) else (some false)))))
theorem calamuslaw01_lives.mono : ∀ k, LeO (calamuslaw01_lives.f k ) (calamuslaw01_lives.f (k + 1) ) := by
 intro  k
 unfold calamuslaw01_lives.f
 repeat' first
   | (with_reducible exact code_Num.mono _ _)
   | (with_reducible exact code_Text.mono _ _)
   | (with_reducible exact LeO.refl _)
   | (with_reducible exact LeO.none _)
   | (with_reducible refine LeO.ite ?_ ?_)
   | (with_reducible refine LeO.bind ?_ (fun _ => ?_))
   | exact code_Num.mono _ _
   | exact code_Text.mono _ _
   | exact LeO.none _
   | refine LeO.ite ?_ ?_
   | refine LeO.bind ?_ (fun _ => ?_)
theorem calamuslaw01_lives.true_ {k : Nat} {r : Bool} (h : calamuslaw01_lives.f k = some r) : r = true := by
 have h1 := at_rounds (g := fun k => calamuslaw01_lives.f k) calamuslaw01_lives.mono (Nat.le_max_left k 60) h
 have h2 := at_rounds (g := fun k => calamuslaw01_lives.f k) calamuslaw01_lives.mono (Nat.le_max_right k 60) (show calamuslaw01_lives.f 60 = some true by decide +kernel)
 rw [h1] at h2
 exact Option.some.inj h2
set_option maxHeartbeats 8000000 in
set_option maxRecDepth 100000 in
theorem calamuslaw01_lives.calls (k : Nat)  (r : Bool) (w : World) (h : calamuslaw01_lives.f k  = some r) :
  Calls Try.prog 20 #[] w fun e w' => e = .returned (.bool r) ∧ Below w.heap.size w w' := by
 have hr_ := calamuslaw01_lives.true_ h
 have HB := Aside0.mk (Below.refl w.heap.size w)
 have H : ((code_NewReader.f (⟨#[2, 0, 0, 0, 97, 98, 1]⟩ : ByteArray)).bind fun bt131 => ((code_Reader_Text.f bt131.1 bt131.2 2).bind fun bt134 => ((code_Reader_Num.f bt134.2.1 bt134.2.2).bind fun bt137 => ((code_Num.f k 258).bind fun t140 => (if t140.toList = ([2, 1, 0, 0] : List UInt8) then ((code_Text.f k (⟨#[97, 98]⟩ : ByteArray)).bind fun t141 => (if t141.toList = ([2, 0, 0, 0, 97, 98] : List UInt8) then (if bt134.1.toList = ([97, 98] : List UInt8) then (if bt137.1 = 0 then ((code_Reader_Err.f bt137.2.1 bt137.2.2).bind fun bt142 => (some (bt142.1 == 2))) else (some false)) else (some false)) else (some false))) else (some false)))))) = some r := h
 clear h
 replace H := Option.bind_eq_some_iff.mp H
 obtain ⟨⟨t131, t132⟩, A10, H⟩ := H
 replace H : ((code_Reader_Text.f t131 t132 2).bind fun bt134 => ((code_Reader_Num.f bt134.2.1 bt134.2.2).bind fun bt137 => ((code_Num.f k 258).bind fun t140 => (if t140.toList = ([2, 1, 0, 0] : List UInt8) then ((code_Text.f k (⟨#[97, 98]⟩ : ByteArray)).bind fun t141 => (if t141.toList = ([2, 0, 0, 0, 97, 98] : List UInt8) then (if bt134.1.toList = ([97, 98] : List UInt8) then (if bt137.1 = 0 then ((code_Reader_Err.f bt137.2.1 bt137.2.2).bind fun bt142 => (some (bt142.1 == 2))) else (some false)) else (some false)) else (some false))) else (some false))))) = some r := H
 have A1 := Aside0.mk A10
 clear A10
 replace H := Option.bind_eq_some_iff.mp H
 obtain ⟨⟨t134, t135, t136⟩, A20, H⟩ := H
 replace H : ((code_Reader_Num.f t135 t136).bind fun bt137 => ((code_Num.f k 258).bind fun t140 => (if t140.toList = ([2, 1, 0, 0] : List UInt8) then ((code_Text.f k (⟨#[97, 98]⟩ : ByteArray)).bind fun t141 => (if t141.toList = ([2, 0, 0, 0, 97, 98] : List UInt8) then (if t134.toList = ([97, 98] : List UInt8) then (if bt137.1 = 0 then ((code_Reader_Err.f bt137.2.1 bt137.2.2).bind fun bt142 => (some (bt142.1 == 2))) else (some false)) else (some false)) else (some false))) else (some false)))) = some r := H
 have A2 := Aside0.mk A20
 clear A20
 replace H := Option.bind_eq_some_iff.mp H
 obtain ⟨⟨t137, t138, t139⟩, A30, H⟩ := H
 replace H : ((code_Num.f k 258).bind fun t140 => (if t140.toList = ([2, 1, 0, 0] : List UInt8) then ((code_Text.f k (⟨#[97, 98]⟩ : ByteArray)).bind fun t141 => (if t141.toList = ([2, 0, 0, 0, 97, 98] : List UInt8) then (if t134.toList = ([97, 98] : List UInt8) then (if t137 = 0 then ((code_Reader_Err.f t138 t139).bind fun bt142 => (some (bt142.1 == 2))) else (some false)) else (some false)) else (some false))) else (some false))) = some r := H
 have A3 := Aside0.mk A30
 clear A30
 replace H := Option.bind_eq_some_iff.mp H
 obtain ⟨t140, A40, H⟩ := H
 replace H : (if t140.toList = ([2, 1, 0, 0] : List UInt8) then ((code_Text.f k (⟨#[97, 98]⟩ : ByteArray)).bind fun t141 => (if t141.toList = ([2, 0, 0, 0, 97, 98] : List UInt8) then (if t134.toList = ([97, 98] : List UInt8) then (if t137 = 0 then ((code_Reader_Err.f t138 t139).bind fun bt142 => (some (bt142.1 == 2))) else (some false)) else (some false)) else (some false))) else (some false)) = some r := H
 have A4 := Aside0.mk A40
 clear A40
 by_cases c5 : t140.toList = ([2, 1, 0, 0] : List UInt8)
 ·rw [if_pos c5] at H
  have c5b0 : (t140.toList == ([2, 1, 0, 0] : List UInt8)) = true := beq_iff_eq.mpr c5
  have c5b1 : (t140.toList != ([2, 1, 0, 0] : List UInt8)) = false := bne_eq_false_iff_eq.mpr c5
  clear c5
  replace H := Option.bind_eq_some_iff.mp H
  obtain ⟨t141, A60, H⟩ := H
  replace H : (if t141.toList = ([2, 0, 0, 0, 97, 98] : List UInt8) then (if t134.toList = ([97, 98] : List UInt8) then (if t137 = 0 then ((code_Reader_Err.f t138 t139).bind fun bt142 => (some (bt142.1 == 2))) else (some false)) else (some false)) else (some false)) = some r := H
  have A6 := Aside0.mk A60
  clear A60
  by_cases c7 : t141.toList = ([2, 0, 0, 0, 97, 98] : List UInt8)
  ·rw [if_pos c7] at H
   have c7b0 : (t141.toList == ([2, 0, 0, 0, 97, 98] : List UInt8)) = true := beq_iff_eq.mpr c7
   have c7b1 : (t141.toList != ([2, 0, 0, 0, 97, 98] : List UInt8)) = false := bne_eq_false_iff_eq.mpr c7
   clear c7
   by_cases c8 : t134.toList = ([97, 98] : List UInt8)
   ·rw [if_pos c8] at H
    have c8b0 : (t134.toList == ([97, 98] : List UInt8)) = true := beq_iff_eq.mpr c8
    have c8b1 : (t134.toList != ([97, 98] : List UInt8)) = false := bne_eq_false_iff_eq.mpr c8
    clear c8
    by_cases c9 : t137 = 0
    ·rw [if_pos c9] at H
     have c9b0 : (t137 == 0) = true := beq_iff_eq.mpr c9
     have c9b1 : (t137 != 0) = false := bne_eq_false_iff_eq.mpr c9
     clear c9
     replace H := Option.bind_eq_some_iff.mp H
     obtain ⟨⟨t142, t143, t144⟩, A100, H⟩ := H
     replace H : (some (t142 == 2)) = some r := H
     have A10 := Aside0.mk A100
     clear A100
     obtain rfl := Option.some.inj H
     go_enter Try.func20, Try.ntmps20
     go_wp2_with (first | ((with_reducible refine gate_callee (f := 21) rfl ?_); refine ge_ (some 4) rfl rfl Try.func21 (by kernel_rfl) rfl #[.string (⟨#[2, 0, 0, 0, 97, 98, 1]⟩ : ByteArray)] rfl (h := ?_); (with_reducible refine (code_NewReader.calls (⟨#[2, 0, 0, 0, 97, 98, 1]⟩ : ByteArray) t131 t132 w _ ?side1 A1.out).mono ?_); (case side1 => repeat (first | (with_reducible first | exact HB.out | apply below_alloc | apply pw_below_drewN | apply below_drew1) | exact HB.out)); rintro e w11 ⟨g133, rfl, hi, hb, hb2⟩; refine ⟨_, rfl, ?_⟩; have HI133 := Aside0.mk (hi); replace HB := Aside0.mk (hb); (try clear hb); (try clear hb2); (try clear hk); (try clear hi)) | ((with_reducible refine gate_callee (f := 24) rfl ?_); refine ge_ (some 6) rfl rfl Try.func24 (by kernel_rfl) rfl #[.pointer (some ⟨g133, 0, none⟩), .int .i64 2] rfl (h := ?_); (with_reducible refine (code_Reader_Text.calls g133 t131 t132 2 t134 t135 t136 w _ ?side1 ?side2 A2.out).mono ?_); (case side1 => repeat (first | (with_reducible first | exact HI133.out | apply IsS45.alloc | apply IsS45.drewN | apply IsS45.drew | apply IsS45.set_0 | apply IsS45.set_1) | exact HI133.out)); (case side2 => repeat (first | (with_reducible first | exact HB.out | apply below_alloc | apply pw_below_drewN | apply below_drew1 | refine below_set ?_ (IsS45.ge HI133.out)) | exact HB.out)); rintro e w12 ⟨rfl, hi, hb, hk⟩; refine ⟨_, rfl, ?_⟩; replace HB := Aside0.mk (hb); replace HI133 := Aside0.mk (hi); (try clear hb); (try clear hb2); (try clear hk); (try clear hi)) | ((with_reducible refine gate_callee (f := 22) rfl ?_); refine ge_ (some 8) rfl rfl Try.func22 (by kernel_rfl) rfl #[.pointer (some ⟨g133, 0, none⟩)] rfl (h := ?_); (with_reducible refine (code_Reader_Num.calls g133 t135 t136 t137 t138 t139 w _ ?side1 ?side2 A3.out).mono ?_); (case side1 => repeat (first | (with_reducible first | exact HI133.out | apply IsS45.alloc | apply IsS45.drewN | apply IsS45.drew | apply IsS45.set_0 | apply IsS45.set_1) | exact HI133.out)); (case side2 => repeat (first | (with_reducible first | exact HB.out | apply below_alloc | apply pw_below_drewN | apply below_drew1 | refine below_set ?_ (IsS45.ge HI133.out)) | exact HB.out)); rintro e w13 ⟨rfl, hi, hb, hk⟩; refine ⟨_, rfl, ?_⟩; replace HB := Aside0.mk (hb); replace HI133 := Aside0.mk (hi); (try clear hb); (try clear hb2); (try clear hk); (try clear hi)) | ((with_reducible refine gate_callee (f := 14) rfl ?_); refine ge_ (some 9) rfl rfl Try.func14 (by kernel_rfl) rfl #[.int .i64 258] rfl (h := ?_); (with_reducible refine (code_Num.calls k 258 t140 _ A4.out).mono ?_); rintro e w14 ⟨rfl, hb⟩; refine ⟨_, rfl, ?_⟩; replace HB := Aside0.mk (below_step (by repeat (first | (with_reducible first | exact HB.out | apply below_alloc | apply pw_below_drewN | apply below_drew1 | refine below_set ?_ (IsS45.ge HI133.out)) | exact HB.out)) hb); replace HI133 := Aside0.mk (IsS45.below (by repeat (first | (with_reducible first | exact HI133.out | apply IsS45.alloc | apply IsS45.drewN | apply IsS45.drew | apply IsS45.set_0 | apply IsS45.set_1) | exact HI133.out)) hb); (try clear hb); (try clear hb2); (try clear hk); (try clear hi)) | (go_at_call 16; (with_reducible refine (code_Text.calls k (⟨#[97, 98]⟩ : ByteArray) t141 _ A6.out).mono ?_); rintro e w15 ⟨rfl, hb⟩; replace HB := Aside0.mk (below_step (by repeat (first | (with_reducible first | exact HB.out | apply below_alloc | apply pw_below_drewN | apply below_drew1 | refine below_set ?_ (IsS45.ge HI133.out)) | exact HB.out)) hb); replace HI133 := Aside0.mk (IsS45.below (by repeat (first | (with_reducible first | exact HI133.out | apply IsS45.alloc | apply IsS45.drewN | apply IsS45.drew | apply IsS45.set_0 | apply IsS45.set_1) | exact HI133.out)) hb); (try clear hb); (try clear hb2); (try clear hk); (try clear hi)) | (go_at_call 30; (with_reducible refine (code_Reader_Err.calls g133 t138 t139 t142 t143 t144 w _ ?side1 ?side2 A10.out).mono ?_); (case side1 => repeat (first | (with_reducible first | exact HI133.out | apply IsS45.alloc | apply IsS45.drewN | apply IsS45.drew | apply IsS45.set_0 | apply IsS45.set_1) | exact HI133.out)); (case side2 => repeat (first | (with_reducible first | exact HB.out | apply below_alloc | apply pw_below_drewN | apply below_drew1 | refine below_set ?_ (IsS45.ge HI133.out)) | exact HB.out)); rintro e w16 ⟨rfl, hi, hb, hk⟩; replace HB := Aside0.mk (hb); replace HI133 := Aside0.mk (hi); (try clear hb); (try clear hb2); (try clear hk); (try clear hi)))
     go_ret
     exact ⟨er_, by repeat (first | (with_reducible first | exact HB.out | apply below_alloc | apply pw_below_drewN | apply below_drew1 | refine below_set ?_ (IsS45.ge HI133.out)) | exact HB.out)⟩
    ·rw [if_neg c9] at H
     have c9b0 : (t137 == 0) = false := beq_eq_false_iff_ne.mpr c9
     have c9b1 : (t137 != 0) = true := bne_iff_ne.mpr c9
     exact nf_ H hr_
   ·rw [if_neg c8] at H
    have c8b0 : (t134.toList == ([97, 98] : List UInt8)) = false := beq_eq_false_iff_ne.mpr c8
    have c8b1 : (t134.toList != ([97, 98] : List UInt8)) = true := bne_iff_ne.mpr c8
    exact nf_ H hr_
  ·rw [if_neg c7] at H
   have c7b0 : (t141.toList == ([2, 0, 0, 0, 97, 98] : List UInt8)) = false := beq_eq_false_iff_ne.mpr c7
   have c7b1 : (t141.toList != ([2, 0, 0, 0, 97, 98] : List UInt8)) = true := bne_iff_ne.mpr c7
   exact nf_ H hr_
 ·rw [if_neg c5] at H
  have c5b0 : (t140.toList == ([2, 1, 0, 0] : List UInt8)) = false := beq_eq_false_iff_ne.mpr c5
  have c5b1 : (t140.toList != ([2, 1, 0, 0] : List UInt8)) = true := bne_iff_ne.mpr c5
  exact nf_ H hr_
/-! ### calamuslaw01_CodeWrites: function 3 -/
def calamuslaw01_CodeWrites.f (k : Nat) (a0 : Int) (a1 : ByteArray) (l2 : List Int) : Option (Bool) := (code_Num.f k a0).bind fun t145 => ((calamusref01_Num.f a0).bind fun t146 => (if t145.toList = t146.toList then ((code_Text.f k a1).bind fun t147 => ((calamusref01_Text.f a1).bind fun t148 => (if t147.toList = t148.toList then ((code_Nums.f k l2).bind fun t149 => ((calamusref01_Nums.f k l2).bind fun t150 => (if t149.toList = t150.toList then ((calamuslaw01_lives.f k).bind fun t151 => (some t151)) else (some false)))) else (some false)))) else (some false)))
theorem calamuslaw01_CodeWrites.mono : ∀ a0 a1 a2 k, LeO (calamuslaw01_CodeWrites.f k a0 a1 a2) (calamuslaw01_CodeWrites.f (k + 1) a0 a1 a2) := by
 intro a0 a1 a2 k
 unfold calamuslaw01_CodeWrites.f
 repeat' first
   | (with_reducible exact calamuslaw01_lives.mono _)
   | (with_reducible exact calamusref01_Nums.mono _ _)
   | (with_reducible exact code_Num.mono _ _)
   | (with_reducible exact code_Nums.mono _ _)
   | (with_reducible exact code_Text.mono _ _)
   | (with_reducible exact LeO.refl _)
   | (with_reducible exact LeO.none _)
   | (with_reducible refine LeO.ite ?_ ?_)
   | (with_reducible refine LeO.bind ?_ (fun _ => ?_))
   | exact calamuslaw01_lives.mono _
   | exact calamusref01_Nums.mono _ _
   | exact code_Num.mono _ _
   | exact code_Nums.mono _ _
   | exact code_Text.mono _ _
   | exact LeO.none _
   | refine LeO.ite ?_ ?_
   | refine LeO.bind ?_ (fun _ => ?_)
set_option maxHeartbeats 8000000 in
set_option maxRecDepth 100000 in
theorem calamuslaw01_CodeWrites.calls (k : Nat) (a0 : Int) (a1 : ByteArray) (A2 : Option Addr) (c2 : Nat) (l2 : List Int) (r : Bool) (w : World) (hr2 : Kd.C (Kd.int .i64) w A2 l2.length l2) (hc2 : l2.length ≤ c2) (h : calamuslaw01_CodeWrites.f k a0 a1 l2 = some r) (hr_ : r = true := by rfl) :
  Calls Try.prog 3 #[.int .i64 a0, .string a1, .slice A2 l2.length c2] w fun e w' => e = .returned (.bool r) ∧ Below w.heap.size w w' := by
 have HR2 := Aside0.mk hr2
 have HC2 := Aside0.mk hc2
 clear hr2 hc2
 have HB := Aside0.mk (Below.refl w.heap.size w)
 have H : ((code_Num.f k a0).bind fun t145 => ((calamusref01_Num.f a0).bind fun t146 => (if t145.toList = t146.toList then ((code_Text.f k a1).bind fun t147 => ((calamusref01_Text.f a1).bind fun t148 => (if t147.toList = t148.toList then ((code_Nums.f k l2).bind fun t149 => ((calamusref01_Nums.f k l2).bind fun t150 => (if t149.toList = t150.toList then ((calamuslaw01_lives.f k).bind fun t151 => (some t151)) else (some false)))) else (some false)))) else (some false)))) = some r := h
 clear h
 replace H := Option.bind_eq_some_iff.mp H
 obtain ⟨t145, A40, H⟩ := H
 replace H : ((calamusref01_Num.f a0).bind fun t146 => (if t145.toList = t146.toList then ((code_Text.f k a1).bind fun t147 => ((calamusref01_Text.f a1).bind fun t148 => (if t147.toList = t148.toList then ((code_Nums.f k l2).bind fun t149 => ((calamusref01_Nums.f k l2).bind fun t150 => (if t149.toList = t150.toList then ((calamuslaw01_lives.f k).bind fun t151 => (some t151)) else (some false)))) else (some false)))) else (some false))) = some r := H
 have A4 := Aside0.mk A40
 clear A40
 replace H := Option.bind_eq_some_iff.mp H
 obtain ⟨t146, A50, H⟩ := H
 replace H : (if t145.toList = t146.toList then ((code_Text.f k a1).bind fun t147 => ((calamusref01_Text.f a1).bind fun t148 => (if t147.toList = t148.toList then ((code_Nums.f k l2).bind fun t149 => ((calamusref01_Nums.f k l2).bind fun t150 => (if t149.toList = t150.toList then ((calamuslaw01_lives.f k).bind fun t151 => (some t151)) else (some false)))) else (some false)))) else (some false)) = some r := H
 have A5 := Aside0.mk A50
 clear A50
 by_cases c6 : t145.toList = t146.toList
 ·rw [if_pos c6] at H
  have c6b0 : (t145.toList == t146.toList) = true := beq_iff_eq.mpr c6
  have c6b1 : (t145.toList != t146.toList) = false := bne_eq_false_iff_eq.mpr c6
  clear c6
  replace H := Option.bind_eq_some_iff.mp H
  obtain ⟨t147, A70, H⟩ := H
  replace H : ((calamusref01_Text.f a1).bind fun t148 => (if t147.toList = t148.toList then ((code_Nums.f k l2).bind fun t149 => ((calamusref01_Nums.f k l2).bind fun t150 => (if t149.toList = t150.toList then ((calamuslaw01_lives.f k).bind fun t151 => (some t151)) else (some false)))) else (some false))) = some r := H
  have A7 := Aside0.mk A70
  clear A70
  replace H := Option.bind_eq_some_iff.mp H
  obtain ⟨t148, A80, H⟩ := H
  replace H : (if t147.toList = t148.toList then ((code_Nums.f k l2).bind fun t149 => ((calamusref01_Nums.f k l2).bind fun t150 => (if t149.toList = t150.toList then ((calamuslaw01_lives.f k).bind fun t151 => (some t151)) else (some false)))) else (some false)) = some r := H
  have A8 := Aside0.mk A80
  clear A80
  by_cases c9 : t147.toList = t148.toList
  ·rw [if_pos c9] at H
   have c9b0 : (t147.toList == t148.toList) = true := beq_iff_eq.mpr c9
   have c9b1 : (t147.toList != t148.toList) = false := bne_eq_false_iff_eq.mpr c9
   clear c9
   replace H := Option.bind_eq_some_iff.mp H
   obtain ⟨t149, A100, H⟩ := H
   replace H : ((calamusref01_Nums.f k l2).bind fun t150 => (if t149.toList = t150.toList then ((calamuslaw01_lives.f k).bind fun t151 => (some t151)) else (some false))) = some r := H
   have A10 := Aside0.mk A100
   clear A100
   replace H := Option.bind_eq_some_iff.mp H
   obtain ⟨t150, A110, H⟩ := H
   replace H : (if t149.toList = t150.toList then ((calamuslaw01_lives.f k).bind fun t151 => (some t151)) else (some false)) = some r := H
   have A11 := Aside0.mk A110
   clear A110
   by_cases c12 : t149.toList = t150.toList
   ·rw [if_pos c12] at H
    have c12b0 : (t149.toList == t150.toList) = true := beq_iff_eq.mpr c12
    have c12b1 : (t149.toList != t150.toList) = false := bne_eq_false_iff_eq.mpr c12
    clear c12
    replace H := Option.bind_eq_some_iff.mp H
    obtain ⟨t151, A130, H⟩ := H
    replace H : (some t151) = some r := H
    have A13 := Aside0.mk A130
    clear A130
    obtain rfl := Option.some.inj H
    go_enter Try.func3, Try.ntmps3
    go_wp2_with (first | ((with_reducible refine gate_callee (f := 14) rfl ?_); refine ge_ (some 8) rfl rfl Try.func14 (by kernel_rfl) rfl #[.int .i64 a0] rfl (h := ?_); (with_reducible refine (code_Num.calls k a0 t145 _ A4.out).mono ?_); rintro e w14 ⟨rfl, hb⟩; refine ⟨_, rfl, ?_⟩; replace HB := bs_ HB hb; (try clear hb); (try clear hb2); (try clear hk); (try clear hi)) | ((with_reducible refine gate_callee (f := 15) rfl ?_); refine ge_ (some 10) rfl rfl Try.func15 (by kernel_rfl) rfl #[.int .i64 a0] rfl (h := ?_); (with_reducible refine (calamusref01_Num.calls a0 t146 _ A5.out).mono ?_); rintro e w15 ⟨rfl, hb⟩; refine ⟨_, rfl, ?_⟩; replace HB := bs_ HB hb; (try clear hb); (try clear hb2); (try clear hk); (try clear hi)) | (go_at_call 16; (with_reducible refine (code_Text.calls k a1 t147 _ A7.out).mono ?_); rintro e w16 ⟨rfl, hb⟩; replace HB := bs_ HB hb; (try clear hb); (try clear hb2); (try clear hk); (try clear hi)) | (go_at_call 17; (with_reducible refine (calamusref01_Text.calls a1 t148 _ A8.out).mono ?_); rintro e w17 ⟨rfl, hb⟩; replace HB := bs_ HB hb; (try clear hb); (try clear hb2); (try clear hk); (try clear hi)) | (go_at_call 18; (with_reducible refine (code_Nums.calls k _ _ l2 t149 _ ?side1 ?side2 A10.out).mono ?_); (case side1 => exact cw_ (Kd.C_below HR2.out HB.out)); (case side2 => exact HC2.out); rintro e w18 ⟨rfl, hb⟩; replace HB := bs_ HB hb; (try clear hb); (try clear hb2); (try clear hk); (try clear hi)) | (go_at_call 19; (with_reducible refine (calamusref01_Nums.calls k _ _ l2 t150 _ ?side1 ?side2 A11.out).mono ?_); (case side1 => exact cw_ (Kd.C_below HR2.out HB.out)); (case side2 => exact HC2.out); rintro e w19 ⟨rfl, hb⟩; replace HB := bs_ HB hb; (try clear hb); (try clear hb2); (try clear hk); (try clear hi)) | (go_at_call 20; (with_reducible refine (calamuslaw01_lives.calls k  t151 _ A13.out).mono ?_); rintro e w20 ⟨rfl, hb⟩; replace HB := bs_ HB hb; (try clear hb); (try clear hb2); (try clear hk); (try clear hi)))
    go_ret
    exact ⟨er_, hb_ HB⟩
   ·rw [if_neg c12] at H
    have c12b0 : (t149.toList == t150.toList) = false := beq_eq_false_iff_ne.mpr c12
    have c12b1 : (t149.toList != t150.toList) = true := bne_iff_ne.mpr c12
    exact nf_ H hr_
  ·rw [if_neg c9] at H
   have c9b0 : (t147.toList == t148.toList) = false := beq_eq_false_iff_ne.mpr c9
   have c9b1 : (t147.toList != t148.toList) = true := bne_iff_ne.mpr c9
   exact nf_ H hr_
 ·rw [if_neg c6] at H
  have c6b0 : (t145.toList == t146.toList) = false := beq_eq_false_iff_ne.mpr c6
  have c6b1 : (t145.toList != t146.toList) = true := bne_iff_ne.mpr c6
  exact nf_ H hr_
/-- THE ONE PURE STATEMENT of calamuslaw01_CodeWrites: yours. -/
def calamuslaw01_CodeWrites.Pure : Prop := ∀ (a0 : Int) (a1 : ByteArray) (l2 : List Int), (Lit.int .i64 a0).wf = true → a1.size ≤ 140737488351232 → l2.length ≤ maxLen → l2.length * 8 ≤ 140737488351232 → (∀ x ∈ l2, (Lit.int .i64 x).wf = true) → ∃ k, calamuslaw01_CodeWrites.f k a0 a1 l2 = some true
theorem calamuslaw01_CodeWrites.walk (P : calamuslaw01_CodeWrites.Pure) (a0 : Int) (a1 : ByteArray) (a2 : Option Addr) (len2 cap2 : Nat) (z2 : List Int) (w : World) (w0 : (Lit.int .i64 a0).wf = true) (w1 : a1.size ≤ 140737488351232) (w2 : (a2 = none ∧ len2 = 0 ∧ cap2 = 0 ∧ z2 = []) ∨ ∃ x, a2 = some x ∧ len2 ≤ cap2 ∧ cap2 ≤ maxLen ∧ z2.length = cap2 ∧ (∀ i, i < z2.length → w.cell? (x.add i) = some (.int .i64 (z2.getD i 0))) ∧ ∀ n ∈ z2, (Lit.int .i64 n).wf = true) (y2 : len2 * 8 ≤ 140737488351232) :
  Calls Try.prog 3 #[.int .i64 a0, .string a1, .slice a2 len2 cap2] w fun e w' => e = .returned (.bool true) ∧ Below w.heap.size w w' := by
 obtain ⟨l2, rfl, hr2, hm2, hw2, hc2⟩ := ReadsInt.ofRowC w2
 obtain ⟨k, h⟩ := P a0 a1 l2 w0 w1 hm2 y2 hw2
 refine (calamuslaw01_CodeWrites.calls k a0 a1 _ _ l2 true w (Kd.C_of_reads (d := (0 : Int)) (h1 := fun _ => rfl) hr2) hc2 h).mono ?_
 rintro e w' ⟨rfl, hd⟩
 exact ⟨rfl, hd⟩

end Go.Proofs.Ytjobaaolohemgaa.PCodeWrites
