/- What the printed functions of layer 1, the program's and the document's, tell: numbers, texts and lists as bytes, and readers of bytes.
  Template: Ytealbonfaebikaa the seat's name, RecordMakes the law's key; in pieces. -/
import Derived.Test.YtealbonfaebikaaOpen
import Derived.Test.YtealbonfaebikaaUtf
import Derived.Test.YtealbonfaebikaaORecordMakesx
namespace Go.Proofs.Ytealbonfaebikaa.RecordMakesCode
open Go.RowKit Go.Proofs.YtealbonfaebikaaW.PrintWords Go.Proofs.YtealbonfaebikaaW.PrintLast Go.Proofs.YtealbonfaebikaaW.PrintMore
open Go.Proofs.Ytealbonfaebikaa.PRecordMakes Go.Proofs.Ytealbonfaebikaa.Utf Go.Proofs.Ytealbonfaebikaa.Open
set_option linter.unusedVariables false
set_option linter.unusedSimpArgs false

theorem wrap_id {x : Int} (h : -9223372036854775808 ≤ x) (h' : x ≤ 9223372036854775807) : wrap64 x = x := by unfold wrap64; omega
theorem ci64 {n : Int} (h : bInt .i64 n) : -9223372036854775808 ≤ n ∧ n ≤ 9223372036854775807 := by
 unfold bInt at h
 simp only [Lit.wf] at h; have := h
 simp [IntKind.min, IntKind.max, IntKind.signed, IntKind.bits] at this
 omega
theorem ev_in {α : Type} {g : Nat → Option α} {r : α} (h : Ev g r) : Ev g r := h
theorem ev_const {α : Type} {g : Nat → Option α} {r : α} (h : ∀ k, g k = some r) : Ev g r := ⟨0, fun k _ => h k⟩
theorem ev_from {α : Type} {g : Nat → Option α} {r : α} (K : Nat) (h : ∀ k, g (k + K) = some r) : Ev g r := ⟨K, fun k hk => by
 have := h (k - K); rwa [Nat.sub_add_cancel hk] at this⟩
theorem ev_off {α : Type} {g : Nat → Option α} {r : α} (K : Nat) (h : Ev (fun k => g (k + K)) r) : Ev g r := by
 obtain ⟨J, hJ⟩ := h
 exact ⟨J + K, fun k hk => by have := hJ (k - K) (by omega); simp only at this; rwa [Nat.sub_add_cancel (by omega)] at this⟩
theorem ev_bind {α β : Type} {g : Nat → Option α} {f : Nat → α → Option β} {a : α} {r : β} (h : Ev g a) (k : Ev (fun n => f n a) r) : Ev (fun n => (g n).bind (f n)) r := Ev.bind h k
theorem ev_bnd {α β : Type} {g : Option α} {f : Nat → α → Option β} {a : α} {r : β} (h : g = some a) (k : Ev (fun n => f n a) r) : Ev (fun n => g.bind (f n)) r := by subst h; exact k
theorem ev_pos {α : Type} {c : Prop} [Decidable c] {a b : Nat → Option α} {r : α} (h : c) (k : Ev a r) : Ev (fun n => if c then a n else b n) r := by
 obtain ⟨K, hK⟩ := k
 exact ⟨K, fun n hn => by simp only [if_pos h]; exact hK n hn⟩
theorem ev_neg {α : Type} {c : Prop} [Decidable c] {a b : Nat → Option α} {r : α} (h : ¬ c) (k : Ev b r) : Ev (fun n => if c then a n else b n) r := by
 obtain ⟨K, hK⟩ := k
 exact ⟨K, fun n hn => by simp only [if_neg h]; exact hK n hn⟩
theorem evr {α : Type} {c : Prop} [Decidable c] {a b : Nat → Option α} {r : α} (k : Ev a r) (h : c := by first | rfl | trivial | simp) : Ev (fun n => if c then a n else b n) r := ev_pos h k

/-- A number's bytes. -/
def enc (n : Int) : List Int := if 0 ≤ n ∧ n ≤ 2147483647 then [n % 256, n / 256 % 256, n / 65536 % 256, n / 16777216 % 256] else []
def num (n : Int) : ByteArray := strOfNums (enc n)
theorem enc_range (n : Int) : ∀ x ∈ enc n, 0 ≤ x ∧ x ≤ 255 := by
 unfold enc
 split
 ·intro x hx
  simp at hx
  omega
 ·simp
theorem bytes_num (n : Int) : bytesOf (num n) = enc n := bytes_nums (enc_range n)
theorem enc_yes {n : Int} (h : 0 ≤ n ∧ n ≤ 2147483647) : enc n = [n % 256, n / 256 % 256, n / 65536 % 256, n / 16777216 % 256] := if_pos h
theorem enc_no {n : Int} (h : ¬ (0 ≤ n ∧ n ≤ 2147483647)) : enc n = [] := if_neg h
theorem num_no {n : Int} (h : ¬ (0 ≤ n ∧ n ≤ 2147483647)) : num n = ⟨#[]⟩ := by unfold num; rw [enc_no h]; rfl
theorem num_size {n : Int} (h : 0 ≤ n ∧ n ≤ 2147483647) : (num n).size = 4 := by rw [← bytes_len, bytes_num, enc_yes h]; rfl
theorem num_le (n : Int) : (num n).size ≤ 4 := by
 by_cases h : 0 ≤ n ∧ n ≤ 2147483647
 ·rw [num_size h]; omega
 ·rw [num_no h]; decide
theorem num_nil (n : Int) : (num n).toList = ([] : List UInt8) ↔ ¬ (0 ≤ n ∧ n ≤ 2147483647) := by
 rw [toList_nil, bytes_num]
 unfold enc
 split <;> simp_all
theorem num_l (n : Int) (h : 0 ≤ n ∧ n ≤ 2147483647) : Ev (fun k => code_Num.l0 k n (List.replicate 4 0) 0) (num n) := by
 refine ev_from 5 fun k => ?_
 have e0 : shr .i64 n 0 = n := by simp [shr, IntKind.bits]
 have e1 : shr .i64 n 8 = n / 256 := by simp [shr, IntKind.bits]
 have e2 : shr .i64 n 16 = n / 65536 := by simp [shr, IntKind.bits]
 have e3 : shr .i64 n 24 = n / 16777216 := by simp [shr, IntKind.bits]
 have w0 : wrap64 (8 * 0) = 0 := wrap_id (by omega) (by omega)
 have w1 : wrap64 (8 * 1) = 8 := wrap_id (by omega) (by omega)
 have w2 : wrap64 (8 * 2) = 16 := wrap_id (by omega) (by omega)
 have w3 : wrap64 (8 * 3) = 24 := wrap_id (by omega) (by omega)
 have v0 : wrap64 (0 + 1) = 1 := wrap_id (by omega) (by omega)
 have v1 : wrap64 (1 + 1) = 2 := wrap_id (by omega) (by omega)
 have v2 : wrap64 (2 + 1) = 3 := wrap_id (by omega) (by omega)
 have v3 : wrap64 (3 + 1) = 4 := wrap_id (by omega) (by omega)
 rw [code_Num.l0, if_pos (by decide), w0, if_pos (by decide), if_pos (by decide), if_pos (by simp), e0, v0]
 rw [code_Num.l0, if_pos (by decide), w1, if_pos (by decide), if_pos (by decide), if_pos (by simp), e1, v1]
 rw [code_Num.l0, if_pos (by decide), w2, if_pos (by decide), if_pos (by decide), if_pos (by simp), e2, v2]
 rw [code_Num.l0, if_pos (by decide), w3, if_pos (by decide), if_pos (by decide), if_pos (by simp), e3, v3]
 rw [code_Num.l0, if_neg (by decide)]
 unfold num
 rw [enc_yes h]
 rfl
theorem num_any (n : Int) : Ev (fun k => code_Num.f k n) (num n) := by
 unfold code_Num.f
 by_cases h0 : n < 0
 ·refine ev_pos h0 (ev_from 1 fun k => ?_)
  rw [code_Num.j0, if_pos rfl, num_no (by omega)]
 ·refine ev_neg h0 ?_
  by_cases h1 : n > 2147483647
  ·refine ev_from 1 fun k => ?_
   rw [code_Num.j0, if_pos (decide_eq_true h1), num_no (by omega)]
  ·refine ev_off 1 ?_
   simp only [code_Num.j0]
   rw [decide_eq_false h1]
   exact ev_neg (by simp) (ev_pos (by decide) (num_l n (by omega)))
theorem rnum_is (n : Int) : calamusref01_Num.f n = some (num n) := by
 unfold calamusref01_Num.f
 by_cases h0 : n < 0
 ·rw [if_pos h0, num_no (by omega)]
 ·rw [if_neg h0]
  by_cases h1 : n > 2147483647
  ·rw [if_pos h1, num_no (by omega)]
  ·rw [if_neg h1]
   have t1 : Int.tdiv n 256 = n / 256 := Int.tdiv_eq_ediv_of_nonneg (by omega)
   have t2 : Int.tdiv n 65536 = n / 65536 := Int.tdiv_eq_ediv_of_nonneg (by omega)
   have t3 : Int.tdiv n 16777216 = n / 16777216 := Int.tdiv_eq_ediv_of_nonneg (by omega)
   rw [t1, t2, t3, wrap_id (by omega) (by omega), wrap_id (by omega) (by omega), wrap_id (by omega) (by omega), Int.tmod_eq_emod_of_nonneg (by omega), Int.tmod_eq_emod_of_nonneg (by omega), Int.tmod_eq_emod_of_nonneg (by omega)]
   unfold num
   rw [enc_yes (by omega)]
   simp only [Int.emod_emod_of_dvd, Int.dvd_refl]
end Go.Proofs.Ytealbonfaebikaa.RecordMakesCode
