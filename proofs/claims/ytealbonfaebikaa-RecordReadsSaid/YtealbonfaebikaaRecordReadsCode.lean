/- What the printed functions of layer 1, the program's and the document's, tell: numbers, texts and lists as bytes, and readers of bytes.
  Template: Ytealbonfaebikaa the seat's name, RecordReads the law's key; in pieces. -/
import Derived.Test.YtealbonfaebikaaOpen
import Derived.Test.YtealbonfaebikaaUtf
import Derived.Test.YtealbonfaebikaaORecordReadsx
namespace Go.Proofs.Ytealbonfaebikaa.RecordReadsCode
open Go.RowKit Go.Proofs.YtealbonfaebikaaW.PrintWords Go.Proofs.YtealbonfaebikaaW.PrintLast Go.Proofs.YtealbonfaebikaaW.PrintMore
open Go.Proofs.Ytealbonfaebikaa.PRecordReads Go.Proofs.Ytealbonfaebikaa.Utf Go.Proofs.Ytealbonfaebikaa.Open
set_option linter.unusedVariables false
set_option linter.unusedSimpArgs false

theorem wrap_id {x : Int} (h : -9223372036854775808 ≤ x) (h' : x ≤ 9223372036854775807) : wrap64 x = x := by unfold wrap64; omega
theorem ci64 {n : Int} (h : bInt .i64 n) : -9223372036854775808 ≤ n ∧ n ≤ 9223372036854775807 := by
 unfold bInt at h
 simp only [Lit.wf] at h; have := h
 simp [IntKind.min, IntKind.max, IntKind.signed, IntKind.bits] at this
 omega
theorem ev_in {α : Type} {g : Nat → Option α} {r : α} (h : Ev g r) : Ev g r := h
theorem ev_const {α : Type} {g : Nat → Option α} {r : α} (h : ∀ k, g k = some r) : Ev g r := ⟨0, fun k _ => h k⟩
theorem ev_from {α : Type} {g : Nat → Option α} {r : α} (K : Nat) (h : ∀ k, g (k + K) = some r) : Ev g r := ⟨K, fun k hk => by
 have := h (k - K); rwa [Nat.sub_add_cancel hk] at this⟩
theorem ev_off {α : Type} {g : Nat → Option α} {r : α} (K : Nat) (h : Ev (fun k => g (k + K)) r) : Ev g r := by
 obtain ⟨J, hJ⟩ := h
 exact ⟨J + K, fun k hk => by have := hJ (k - K) (by omega); simp only at this; rwa [Nat.sub_add_cancel (by omega)] at this⟩
theorem ev_bind {α β : Type} {g : Nat → Option α} {f : Nat → α → Option β} {a : α} {r : β} (h : Ev g a) (k : Ev (fun n => f n a) r) : Ev (fun n => (g n).bind (f n)) r := Ev.bind h k
theorem ev_bnd {α β : Type} {g : Option α} {f : Nat → α → Option β} {a : α} {r : β} (h : g = some a) (k : Ev (fun n => f n a) r) : Ev (fun n => g.bind (f n)) r := by subst h; exact k
theorem ev_pos {α : Type} {c : Prop} [Decidable c] {a b : Nat → Option α} {r : α} (h : c) (k : Ev a r) : Ev (fun n => if c then a n else b n) r := by
 obtain ⟨K, hK⟩ := k
 exact ⟨K, fun n hn => by simp only [if_pos h]; exact hK n hn⟩
theorem ev_neg {α : Type} {c : Prop} [Decidable c] {a b : Nat → Option α} {r : α} (h : ¬ c) (k : Ev b r) : Ev (fun n => if c then a n else b n) r := by
 obtain ⟨K, hK⟩ := k
 exact ⟨K, fun n hn => by simp only [if_neg h]; exact hK n hn⟩
theorem evr {α : Type} {c : Prop} [Decidable c] {a b : Nat → Option α} {r : α} (k : Ev a r) (h : c := by first | rfl | trivial | simp) : Ev (fun n => if c then a n else b n) r := ev_pos h k

/-- A number's bytes. -/
def enc (n : Int) : List Int := if 0 ≤ n ∧ n ≤ 2147483647 then [n % 256, n / 256 % 256, n / 65536 % 256, n / 16777216 % 256] else []
def num (n : Int) : ByteArray := strOfNums (enc n)
theorem enc_range (n : Int) : ∀ x ∈ enc n, 0 ≤ x ∧ x ≤ 255 := by
 unfold enc
 split
 ·intro x hx
  simp at hx
  omega
 ·simp
theorem bytes_num (n : Int) : bytesOf (num n) = enc n := bytes_nums (enc_range n)
theorem enc_yes {n : Int} (h : 0 ≤ n ∧ n ≤ 2147483647) : enc n = [n % 256, n / 256 % 256, n / 65536 % 256, n / 16777216 % 256] := if_pos h
theorem enc_no {n : Int} (h : ¬ (0 ≤ n ∧ n ≤ 2147483647)) : enc n = [] := if_neg h
theorem num_no {n : Int} (h : ¬ (0 ≤ n ∧ n ≤ 2147483647)) : num n = ⟨#[]⟩ := by unfold num; rw [enc_no h]; rfl
theorem num_size {n : Int} (h : 0 ≤ n ∧ n ≤ 2147483647) : (num n).size = 4 := by rw [← bytes_len, bytes_num, enc_yes h]; rfl
theorem num_le (n : Int) : (num n).size ≤ 4 := by
 by_cases h : 0 ≤ n ∧ n ≤ 2147483647
 ·rw [num_size h]; omega
 ·rw [num_no h]; decide
theorem num_nil (n : Int) : (num n).toList = ([] : List UInt8) ↔ ¬ (0 ≤ n ∧ n ≤ 2147483647) := by
 rw [toList_nil, bytes_num]
 unfold enc
 split <;> simp_all
theorem num_l (n : Int) (h : 0 ≤ n ∧ n ≤ 2147483647) : Ev (fun k => code_Num.l0 k n (List.replicate 4 0) 0) (num n) := by
 refine ev_from 5 fun k => ?_
 have e0 : shr .i64 n 0 = n := by simp [shr, IntKind.bits]
 have e1 : shr .i64 n 8 = n / 256 := by simp [shr, IntKind.bits]
 have e2 : shr .i64 n 16 = n / 65536 := by simp [shr, IntKind.bits]
 have e3 : shr .i64 n 24 = n / 16777216 := by simp [shr, IntKind.bits]
 have w0 : wrap64 (8 * 0) = 0 := wrap_id (by omega) (by omega)
 have w1 : wrap64 (8 * 1) = 8 := wrap_id (by omega) (by omega)
 have w2 : wrap64 (8 * 2) = 16 := wrap_id (by omega) (by omega)
 have w3 : wrap64 (8 * 3) = 24 := wrap_id (by omega) (by omega)
 have v0 : wrap64 (0 + 1) = 1 := wrap_id (by omega) (by omega)
 have v1 : wrap64 (1 + 1) = 2 := wrap_id (by omega) (by omega)
 have v2 : wrap64 (2 + 1) = 3 := wrap_id (by omega) (by omega)
 have v3 : wrap64 (3 + 1) = 4 := wrap_id (by omega) (by omega)
 rw [code_Num.l0, if_pos (by decide), w0, if_pos (by decide), if_pos (by decide), if_pos (by simp), e0, v0]
 rw [code_Num.l0, if_pos (by decide), w1, if_pos (by decide), if_pos (by decide), if_pos (by simp), e1, v1]
 rw [code_Num.l0, if_pos (by decide), w2, if_pos (by decide), if_pos (by decide), if_pos (by simp), e2, v2]
 rw [code_Num.l0, if_pos (by decide), w3, if_pos (by decide), if_pos (by decide), if_pos (by simp), e3, v3]
 rw [code_Num.l0, if_neg (by decide)]
 unfold num
 rw [enc_yes h]
 rfl
theorem num_any (n : Int) : Ev (fun k => code_Num.f k n) (num n) := by
 unfold code_Num.f
 by_cases h0 : n < 0
 ·refine ev_pos h0 (ev_from 1 fun k => ?_)
  rw [code_Num.j0, if_pos rfl, num_no (by omega)]
 ·refine ev_neg h0 ?_
  by_cases h1 : n > 2147483647
  ·refine ev_from 1 fun k => ?_
   rw [code_Num.j0, if_pos (decide_eq_true h1), num_no (by omega)]
  ·refine ev_off 1 ?_
   simp only [code_Num.j0]
   rw [decide_eq_false h1]
   exact ev_neg (by simp) (ev_pos (by decide) (num_l n (by omega)))
theorem text_any (s : ByteArray) (hs : s.size ≤ 140737488351232) : Ev (fun k => code_Text.f k s) (if (s.size : Int) ≤ 2147483647 then num s.size ++ s else ⟨#[]⟩) := by
 unfold code_Text.f
 by_cases h : (s.size : Int) > 2147483647
 ·rw [if_neg (by omega)]
  exact ev_pos h (Ev.now _)
 ·rw [if_pos (by omega)]
  refine ev_neg h (ev_bind (num_any _) (ev_pos ?_ (Ev.now _)))
  have := num_le s.size
  omega
theorem rd_get {l : List Int} {i : Nat} (h : i < l.length) : rd l (i : Int) = l[i] := by
 unfold rd
 rw [Int.toNat_natCast, List.getD_eq_getElem?_getD, List.getElem?_eq_getElem h]; rfl
def isN (n : Int) : Prop := 0 ≤ n ∧ n ≤ 2147483647
instance (n : Int) : Decidable (isN n) := by unfold isN; infer_instance
def cat : List Int → ByteArray → ByteArray
 | [], b => b
 | n :: l, b => if isN n then cat l (b ++ num n) else ⟨#[]⟩
theorem cat_bytes : ∀ (l : List Int) (b : ByteArray), (∀ n ∈ l, isN n) → bytesOf (cat l b) = bytesOf b ++ l.flatMap enc
 | [], b, _ => by simp [cat]
 | n :: l, b, h => by
  rw [cat, if_pos (h n (by simp)), cat_bytes l _ (fun m hm => h m (by simp [hm])), bytes_append, bytes_num, List.flatMap_cons, List.append_assoc]
theorem cat_no : ∀ (l : List Int) (b : ByteArray), ¬ (∀ n ∈ l, isN n) → cat l b = ⟨#[]⟩
 | [], b, h => absurd (fun n hn => by simp at hn) h
 | n :: l, b, h => by
  rw [cat]
  by_cases g : isN n
  ·rw [if_pos g]
   exact cat_no l _ (fun h' => h fun m hm => by rcases List.mem_cons.1 hm with rfl | hm; exact g; exact h' m hm)
  ·rw [if_neg g]
def nums (l : List Int) : ByteArray := cat l (num l.length)
theorem size_app (a b : ByteArray) : (a ++ b).size = a.size + b.size := ByteArray.size_append
theorem ext_all {s : ByteArray} {n : Nat} (h : n = s.size) : s.extract 0 n = s := by subst h; exact bytes_inj (by rw [bytes_extract]; simp [List.take_of_length_le, bytes_len])
theorem ext_front (a b : ByteArray) : (a ++ b).extract 0 a.size = a := bytes_inj (by rw [bytes_extract, bytes_append, ← bytes_len a]; simp)
theorem ext_back (a b : ByteArray) : (a ++ b).extract a.size (a ++ b).size = b := bytes_inj (by rw [bytes_drop, bytes_append, ← bytes_len a]; simp)
theorem app_assoc (a b c : ByteArray) : (a ++ b) ++ c = a ++ (b ++ c) := bytes_inj (by simp [bytes_append])
theorem app_nil (a : ByteArray) : (⟨#[]⟩ : ByteArray) ++ a = a := bytes_inj (by rw [bytes_append]; rfl)
theorem num4_num (n : Int) (h : 0 ≤ n ∧ n ≤ 2147483647) (s : ByteArray) : num4 ((num n ++ s).extract 0 4) = n := by
 rw [← num_size h, ext_front]
 unfold num4
 rw [bytes_get, bytes_get, bytes_get, bytes_get, bytes_num, enc_yes h]
 simp
 omega
/-- What a reader tells, and leaves. -/
def rN (s : ByteArray) (e : Int) : Int × ByteArray × Int := if e = 0 then (if s.size < 4 then (0, ⟨#[]⟩, 2) else if num4 (s.extract 0 4) > 2147483647 then (0, ⟨#[]⟩, 6) else (num4 (s.extract 0 4), s.extract 4 s.size, 0)) else (0, s, e)
theorem ext_size (s : ByteArray) (a b : Nat) : (s.extract a b).size = min b s.size - a := ByteArray.size_extract
theorem rN_is (s : ByteArray) (e : Int) : code_Reader_Num.f s e = some (rN s e) := by
 unfold code_Reader_Num.f code_Reader_take.f code_Reader_fail.f rN
 by_cases h : e = 0
 ·subst h
  simp only [if_true]
  by_cases h4 : s.size < 4
  ·rw [if_pos (by omega), if_pos h4]
   simp
  ·rw [if_neg (by omega), if_neg h4, if_pos (by decide), if_pos (by omega)]
   have e4 : (Int.toNat 4) = 4 := rfl
   simp only [Option.bind_some, if_true, e4]
   rw [if_pos (by rw [ext_size]; omega)]
   split <;> rfl
 ·rw [if_neg h, if_neg h]
  simp
theorem rN_back {n : Int} (h : 0 ≤ n ∧ n ≤ 2147483647) (s : ByteArray) : rN (num n ++ s) 0 = (n, s, 0) := by
 have h4 := num_size h
 unfold rN
 rw [if_pos rfl, if_neg (by rw [size_app]; omega), num4_num n h, if_neg (by omega), ← h4, ext_back]
theorem bt_cut (s : ByteArray) (n : Nat) (i : Nat) (h : i < n) : bt (s.extract 0 n) i = bt s i := by
 rw [bytes_get, bytes_get, bytes_extract]
 simp only [List.drop_zero, Nat.sub_zero, List.getD_eq_getElem?_getD, List.getElem?_take, Int.toNat_natCast, if_pos h]
theorem num4_cut (s : ByteArray) : num4 (s.extract 0 4) = bt s 0 + 256 * bt s 1 + 65536 * bt s 2 + 16777216 * bt s 3 := by
 unfold num4
 have h0 := bt_cut s 4 0 (by omega)
 have h1 := bt_cut s 4 1 (by omega)
 have h2 := bt_cut s 4 2 (by omega)
 have h3 := bt_cut s 4 3 (by omega)
 rw [show bt (s.extract 0 4) 0 = bt s 0 from h0, show bt (s.extract 0 4) 1 = bt s 1 from h1, show bt (s.extract 0 4) 2 = bt s 2 from h2, show bt (s.extract 0 4) 3 = bt s 3 from h3]
theorem w4 (s : ByteArray) : wrap64 ((wrap64 ((wrap64 ((wrap64 (bt s 0)) + (wrap64 (256 * (wrap64 (bt s 1)))))) + (wrap64 (65536 * (wrap64 (bt s 2)))))) + (wrap64 (16777216 * (wrap64 (bt s 3))))) = num4 (s.extract 0 4) := by
 have b0 := bt_range s 0
 have b1 := bt_range s 1
 have b2 := bt_range s 2
 have b3 := bt_range s 3
 rw [num4_cut, wrap_id (x := bt s 0) (by omega) (by omega), wrap_id (x := bt s 1) (by omega) (by omega), wrap_id (x := bt s 2) (by omega) (by omega), wrap_id (x := bt s 3) (by omega) (by omega)]
 rw [wrap_id (x := 256 * bt s 1) (by omega) (by omega), wrap_id (x := 65536 * bt s 2) (by omega) (by omega), wrap_id (x := 16777216 * bt s 3) (by omega) (by omega)]
 rw [wrap_id (x := bt s 0 + 256 * bt s 1) (by omega) (by omega), wrap_id (x := _ + 65536 * bt s 2) (by omega) (by omega), wrap_id (x := _ + 16777216 * bt s 3) (by omega) (by omega)]
theorem num4_range (s : ByteArray) : 0 ≤ num4 s ∧ num4 s ≤ 4294967295 := by
 unfold num4
 have := bt_range s 0
 have := bt_range s 1
 have := bt_range s 2
 have := bt_range s 3
 omega
theorem ext2 (s : ByteArray) (a b c d : Nat) (h : a + d ≤ b) : (s.extract a b).extract c d = s.extract (a + c) (a + d) := by
 apply bytes_inj
 rw [bytes_extract, bytes_extract, bytes_extract, List.drop_take, List.drop_drop, List.take_take]
 congr 1
 omega
theorem bt_ext (s : ByteArray) (a b : Nat) (i : Nat) (h : a + i < b) : bt (s.extract a b) i = bt s (a + i : Nat) := by
 rw [bytes_get, bytes_get, bytes_extract]
 simp only [List.getD_eq_getElem?_getD, List.getElem?_take, Int.toNat_natCast, List.getElem?_drop]
 rw [if_pos (by omega)]
/-- Two numbers that are read, one behind the other. -/
theorem rN_two (Q : ByteArray) (h : 8 ≤ Q.size) :
  (num4 (Q.extract 0 4) ≤ 2147483647 ∧ num4 (Q.extract 4 8) ≤ 2147483647 ∧ (rN Q 0).1 = num4 (Q.extract 0 4) ∧ (rN (rN Q 0).2.1 (rN Q 0).2.2).1 = num4 (Q.extract 4 8) ∧ (rN (rN Q 0).2.1 (rN Q 0).2.2).2.2 = 0 ∧ (rN (rN Q 0).2.1 (rN Q 0).2.2).2.1 = Q.extract 8 Q.size)
  ∨ (¬ (num4 (Q.extract 0 4) ≤ 2147483647 ∧ num4 (Q.extract 4 8) ≤ 2147483647) ∧ (rN (rN Q 0).2.1 (rN Q 0).2.2).2.2 = 6 ∧ (rN (rN Q 0).2.1 (rN Q 0).2.2).2.1 = ⟨#[]⟩) := by
 have e1 : (Q.extract 4 Q.size).extract 0 4 = Q.extract 4 8 := ext2 Q 4 Q.size 0 4 (by omega)
 have e2 : (Q.extract 4 Q.size).size = Q.size - 4 := by rw [ext_size]; omega
 have e3 : (Q.extract 4 Q.size).extract 4 (Q.extract 4 Q.size).size = Q.extract 8 Q.size := by
  rw [e2, ext2 Q 4 Q.size 4 (Q.size - 4) (by omega)]; congr 1; omega
 by_cases hA : num4 (Q.extract 0 4) > 2147483647
 ·refine .inr ⟨by omega, ?_⟩
  have q : rN Q 0 = (0, (⟨#[]⟩ : ByteArray), (6 : Int)) := by unfold rN; rw [if_pos rfl, if_neg (by omega), if_pos hA]
  rw [q]
  unfold rN
  simp
 ·have q : rN Q 0 = (num4 (Q.extract 0 4), Q.extract 4 Q.size, (0 : Int)) := by unfold rN; rw [if_pos rfl, if_neg (by omega), if_neg hA]
  rw [q]
  by_cases hB : num4 (Q.extract 4 8) > 2147483647
  ·refine .inr ⟨by omega, ?_⟩
   unfold rN
   simp only [if_true, e1, e2, e3]
   rw [if_neg (by omega), if_pos hB]
   simp
  ·refine .inl ⟨by omega, by omega, rfl, ?_⟩
   unfold rN
   simp only [if_true, e1, e2, e3]
   rw [if_neg (by omega), if_neg hB, ← e2, e3]
   simp
theorem rrn_is (s : ByteArray) (e : Int) : calamusref01_Reader_Num.f s e = some (rN s e) := by
 unfold calamusref01_Reader_Num.f calamusref01_Reader_stop.f rN
 by_cases h : e = 0
 ·subst h
  simp only [if_true]
  by_cases h4 : s.size < 4
  ·rw [if_pos (by omega), if_pos h4]
   rfl
  ·rw [if_neg (by omega), if_neg h4, if_pos (by omega), if_pos (by omega), if_pos (by omega), if_pos (by omega), w4]
   split
   ·rfl
   ·rw [if_pos (by omega)]
 ·rw [if_neg h, if_neg h]
end Go.Proofs.Ytealbonfaebikaa.RecordReadsCode
