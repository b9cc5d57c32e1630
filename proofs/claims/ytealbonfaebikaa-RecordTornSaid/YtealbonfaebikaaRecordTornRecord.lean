/- What the functions of layer 33, the program's and the document's, tell: records as bytes.
  Template: Ytealbonfaebikaa the seat's name, RecordTorn the law's key; in pieces. -/
import Derived.Test.YtealbonfaebikaaRecordTornCode
namespace Go.Proofs.Ytealbonfaebikaa.RecordTornRecord
open Go.RowKit Go.Proofs.YtealbonfaebikaaW.PrintWords Go.Proofs.YtealbonfaebikaaW.PrintLast Go.Proofs.YtealbonfaebikaaW.PrintMore
open Go.Proofs.Ytealbonfaebikaa.PRecordTorn Go.Proofs.Ytealbonfaebikaa.Utf Go.Proofs.Ytealbonfaebikaa.Open Go.Proofs.Ytealbonfaebikaa.RecordTornCode
set_option linter.unusedVariables false
set_option linter.unusedSimpArgs false

theorem lives_ : Ev (fun k => calamuslaw33_lives.f k) true := Ev.of calamuslaw33_lives.mono (k := 30) (by decide +kernel)
/-- Texts as one. -/
def glueB (l : List ByteArray) : ByteArray := ⟨(l.map (·.data.toList)).flatten.toArray⟩
theorem join_flat (xs : List (List UInt8)) : Lib.join xs [] = xs.flatten := by
 cases xs with
 | nil => rfl
 | cons x r =>
  rw [Lib.join_cons]
  unfold Lib.joinTail
  simp
theorem data_bytes (s : ByteArray) : bytesOf s = s.data.toList.map (fun b => (b.toNat : Int)) := rfl
theorem bytes_glue (l : List ByteArray) : bytesOf (glueB l) = l.flatMap bytesOf := by
 rw [data_bytes]
 show List.map _ (List.flatten _).toArray.toList = _
 simp only [List.map_flatten, List.map_map, List.flatMap]
 congr 1
theorem glue_size (l : List ByteArray) : (glueB l).size = (l.map ByteArray.size).sum := by
 rw [← bytes_len, bytes_glue, List.length_flatMap]
 congr 1
 apply List.map_congr_left
 intro s _
 exact bytes_len s
theorem glue_is (l : List ByteArray) (hl : l.length ≤ 1000000) (hs : (glueB l).size ≤ 140737488355328) : record_glue.f l = some (glueB l) := by
 unfold record_glue.f strings_Join.f
 have e : (⟨#[]⟩ : ByteArray).data.toList = ([] : List UInt8) := rfl
 rw [e, join_flat]
 have hz : ((l.map (·.data.toList)).flatten).length ≤ 140737488355328 := by
  have : (glueB l).size = ((l.map (·.data.toList)).flatten).length := by unfold glueB; simp [ByteArray.size]
  omega
 rw [if_pos ⟨hl, hz⟩]
 rfl
theorem one_byte (b : Int) (hb : 0 ≤ b ∧ b ≤ 255) : bytesOf (strOfNums [b]) = [b] := bytes_nums (by simpa using hb)
def RR (k e s : Int) (d : ByteArray) : Prop := (k = 1 ∨ k = 2) ∧ (1 ≤ e ∧ e ≤ 2147483647) ∧ (0 ≤ s ∧ s ≤ 2147483647) ∧ d.size ≤ 64
instance (k e s : Int) (d : ByteArray) : Decidable (RR k e s d) := by unfold RR; infer_instance
theorem right_is (k e s : Int) (d : ByteArray) : record_Right.f k e s d = some (decide (RR k e s d)) := by
 unfold record_Right.f
 by_cases h1 : k = 1
 ·rw [if_pos h1]
  by_cases a : e ≥ 1
  ·rw [if_pos a]
   by_cases b : e ≤ 2147483647
   ·rw [if_pos b]
    by_cases c : s ≥ 0
    ·rw [if_pos c]
     by_cases f : s ≤ 2147483647
     ·rw [if_pos f]; congr 1; rw [decide_eq_decide]; unfold RR; constructor
      ·intro h; exact ⟨.inl h1, ⟨a, b⟩, ⟨c, f⟩, by omega⟩
      ·rintro ⟨_, _, _, h⟩; omega
     ·rw [if_neg f, decide_eq_false (fun h => f h.2.2.1.2)]
    ·rw [if_neg c, decide_eq_false (fun h => c h.2.2.1.1)]
   ·rw [if_neg b, decide_eq_false (fun h => b h.2.1.2)]
  ·rw [if_neg a, decide_eq_false (fun h => a h.2.1.1)]
 ·rw [if_neg h1]
  by_cases h2 : k = 2
  ·rw [if_pos h2]
   by_cases a : e ≥ 1
   ·rw [if_pos a]
    by_cases b : e ≤ 2147483647
    ·rw [if_pos b]
     by_cases c : s ≥ 0
     ·rw [if_pos c]
      by_cases f : s ≤ 2147483647
      ·rw [if_pos f]; congr 1; rw [decide_eq_decide]; unfold RR; constructor
       ·intro h; exact ⟨.inr h2, ⟨a, b⟩, ⟨c, f⟩, by omega⟩
       ·rintro ⟨_, _, _, h⟩; omega
      ·rw [if_neg f, decide_eq_false (fun h => f h.2.2.1.2)]
     ·rw [if_neg c, decide_eq_false (fun h => c h.2.2.1.1)]
    ·rw [if_neg b, decide_eq_false (fun h => b h.2.1.2)]
   ·rw [if_neg a, decide_eq_false (fun h => a h.2.1.1)]
  ·rw [if_neg h2, decide_eq_false (fun h => by rcases h.1 with h | h; exact h1 h; exact h2 h)]
/-- A text's sum, and its bytes. -/
def sumV (s : ByteArray) : Int := wrap64 (Go.bits .xor .u32 ((bytesOf s).foldl crcB 4294967295) 4294967295)
def cb (v : Int) : ByteArray := strOfNums [sumByte v 0, sumByte v 1, sumByte v 2, sumByte v 3]
theorem cb_bytes (v : Int) : bytesOf (cb v) = [sumByte v 0, sumByte v 1, sumByte v 2, sumByte v 3] := by
 have hb : ∀ i, 0 ≤ sumByte v i ∧ sumByte v i ≤ 255 := fun i => by unfold sumByte; omega
 exact bytes_nums (by
  intro x hx
  simp only [List.mem_cons, List.not_mem_nil, or_false] at hx
  rcases hx with rfl | rfl | rfl | rfl <;> exact hb _)
theorem cb_size (v : Int) : (cb v).size = 4 := by rw [← bytes_len, cb_bytes]; rfl
theorem sum_is (s : ByteArray) (hs : s.size ≤ 1152921504606846976) : Ev (fun k => crc_Sum.f k [s]) (sumV s) := by
 refine ev_from 2 fun k => ?_
 show crc_Sum.l0 (k + 2) 4294967295 [s] 1 0 = _
 rw [crc_Sum.l0, if_pos (by decide), if_pos (by decide), if_pos (by simp)]
 have e : rdOf ByteArray.empty [s] 0 = s := rfl
 rw [e]
 unfold crc_run.f
 rw [if_pos hs]
 simp only [Option.bind_some]
 rw [wrap_id (x := (0 : Int) + 1) (by omega) (by omega), crc_Sum.l0, if_neg (by decide)]
 rfl
/-- With its sum behind it. -/
def sealB (s : ByteArray) : ByteArray := s ++ cb (sumV s)
theorem seal_is (s : ByteArray) (hs : s.size ≤ 1152921504606846976) : Ev (fun k => crc_Seal.f k s) (sealB s) := by
 unfold crc_Seal.f crc_bytes.f
 refine ev_bind (sum_is s hs) ?_
 simp only [Option.bind_some]
 have := cb_size (sumV s)
 exact ev_pos (by show s.size + (cb (sumV s)).size ≤ _; omega) (Ev.now _)
/-- What a record has within, and its bytes. -/
def inn (k e s : Int) (d : ByteArray) : ByteArray := glueB [strOfNums [k % 256], num e, num s, d]
def recB (k e s : Int) (d : ByteArray) : ByteArray := sealB (num (inn k e s d).size ++ inn k e s d)
section
variable {k e s : Int} {d : ByteArray}
theorem inn_bytes (h : RR k e s d) : bytesOf (inn k e s d) = k :: (enc e ++ (enc s ++ bytesOf d)) := by
 have hk : k % 256 = k := by rcases h.1 with h | h <;> omega
 have h1 : bytesOf (strOfNums [k % 256]) = [k] := by rw [hk]; exact one_byte k (by rcases h.1 with h | h <;> omega)
 unfold inn
 rw [bytes_glue]
 simp [h1, bytes_num]
theorem inn_size (h : RR k e s d) : (inn k e s d).size = 9 + d.size := by
 rw [← bytes_len, inn_bytes h, enc_yes ⟨by have := h.2.1; omega, h.2.1.2⟩, enc_yes h.2.2.1]
 simp [bytes_len]
 omega
theorem rec_size (h : RR k e s d) : (recB k e s d).size = 17 + d.size := by
 have h1 := inn_size h
 have h2 := h.2.2.2
 have h3 : (num (inn k e s d).size).size = 4 := num_size (by omega)
 unfold recB sealB
 rw [size_app, size_app, cb_size, h3, h1]
 omega
theorem bytes_yes (h : RR k e s d) : Ev (fun n => record_Bytes.f n k e s d) (recB k e s d) := by
 unfold record_Bytes.f
 rw [right_is, decide_eq_true h]
 simp only [Option.bind_some]
 have h1 := inn_size h
 have h2 := h.2.2.2
 refine evr (ev_bind (num_any _) (ev_bind (num_any _) ?_))
 rw [glue_is _ (by simp) (by show (inn k e s d).size ≤ _; omega)]
 simp only [Option.bind_some]
 refine ev_bind (text_any _ (by show (inn k e s d).size ≤ _; omega)) ?_
 rw [if_pos (by show ((inn k e s d).size : Int) ≤ _; omega)]
 refine ev_bind (seal_is _ ?_) (Ev.now _)
 rw [size_app]
 have := num_le ((inn k e s d).size : Int)
 show (num ((inn k e s d).size : Int)).size + (inn k e s d).size ≤ _
 omega
theorem bytes_no (h : ¬ RR k e s d) : Ev (fun n => record_Bytes.f n k e s d) ⟨#[]⟩ := by
 unfold record_Bytes.f
 rw [right_is, decide_eq_false h]
 simp only [Option.bind_some]
 exact ev_neg (by simp) (Ev.now _)
end
theorem cb_is (v : Int) : crc_bytes.f v = some (cb v) := rfl
theorem open_seal (s : ByteArray) (hs : s.size ≤ 1000000) : Ev (fun k => crc_Open.f k (sealB s)) (s, 0) := by
 have hz : (sealB s).size = s.size + 4 := by unfold sealB; rw [size_app, cb_size]
 have ew : wrap64 (((sealB s).size : Int) - 4) = (s.size : Int) := by rw [wrap_id (by omega) (by omega)]; omega
 have e1 : (sealB s).extract 0 s.size = s := by unfold sealB; exact ext_front s _
 have e2 : (sealB s).extract s.size (sealB s).size = cb (sumV s) := by unfold sealB; exact ext_back s _
 have q := sum_is s (Nat.le_trans hs (by decide))
 generalize sumV s = v at q e2
 generalize sealB s = S at hz ew e1 e2 ⊢
 unfold crc_Open.f
 simp only [ew, Int.toNat_natCast, e1, e2, cb_is, Option.bind_some]
 refine ev_neg (by omega) (ev_pos (by omega) (ev_pos (by omega) ?_))
 exact ev_bind q (evr (Ev.now _))
section
variable {k e s : Int} {d : ByteArray}
theorem ext_tail (a b : ByteArray) (n m : Nat) (hn : n = a.size) (hm : m = (a ++ b).size) : (a ++ b).extract n m = b := by subst hn; subst hm; exact ext_back a b
theorem ext_head (a b : ByteArray) (n : Nat) (hn : n = a.size) : (a ++ b).extract 0 n = a := by subst hn; exact ext_front a b
theorem inn_parts (h : RR k e s d) : inn k e s d = strOfNums [k] ++ (num e ++ (num s ++ d)) := by
 have hk : k % 256 = k := by rcases h.1 with h | h <;> omega
 apply bytes_inj
 rw [inn_bytes h, bytes_append, bytes_append, bytes_append, bytes_num, bytes_num, one_byte k (by rcases h.1 with h | h <;> omega)]
 rfl
theorem within_is (h : RR k e s d) : record_within.f (inn k e s d) = some (k, e, s, d, true) := by
 have hs := inn_size h
 have hk : 0 ≤ k ∧ k ≤ 255 := by rcases h.1 with h | h <;> omega
 have h1 : (strOfNums [k]).size = 1 := by rw [← bytes_len, one_byte k hk]; rfl
 have hd := h.2.2.2
 unfold record_within.f
 rw [if_pos (by omega), if_pos (by omega)]
 have e1 : (inn k e s d).extract 1 (inn k e s d).size = num e ++ (num s ++ d) := by rw [inn_parts h]; exact ext_tail _ _ _ _ h1.symm rfl
 have eb : wrap64 (bt (inn k e s d) 0) = k := by
  rw [bytes_get, inn_bytes h]
  exact wrap_id (by simp; omega) (by simp; omega)
 rw [e1, eb]
 simp only [code_NewReader.f, code_Reader_Left.f, code_Reader_Err.f, Option.bind_some, rN_is, rN_back (show 0 ≤ e ∧ e ≤ 2147483647 from ⟨by have := h.2.1; omega, h.2.1.2⟩), rN_back h.2.2.1]
 have ew : wrap64 (((inn k e s d).size : Int) - (d.size : Int)) = (9 : Int) := by rw [hs, wrap_id (by omega) (by omega)]; omega
 rw [ew, if_pos (by decide), if_pos (by omega)]
 have e2 : (inn k e s d).extract (Int.toNat 9) (inn k e s d).size = d := by
  have q : inn k e s d = (strOfNums [k] ++ (num e ++ num s)) ++ d := by rw [inn_parts h]; simp only [app_assoc]
  rw [q]
  refine ext_tail _ _ _ _ ?_ rfl
  rw [size_app, size_app, h1, num_size ⟨by have := h.2.1; omega, h.2.1.2⟩, num_size h.2.2.1]; rfl
 rw [e2, right_is, decide_eq_true h]
 simp
theorem rN_one {n : Int} (h : 0 ≤ n ∧ n ≤ 2147483647) : rN (num n) 0 = (n, (⟨#[]⟩ : ByteArray), (0 : Int)) := by
 have q := rN_back h ⟨#[]⟩
 have e : num n ++ (⟨#[]⟩ : ByteArray) = num n := bytes_inj (by rw [bytes_append]; exact List.append_nil _)
 rw [e] at q
 exact q
theorem read_any (R I b d : ByteArray) (k e s : Int) (hI : I.size = 9 + d.size) (hd : d.size ≤ 64) (hR : R.size = 17 + d.size) (e0 : (R ++ b).extract 0 4 = num I.size) (hb : b.size ≤ 1000000000000000)
  (q : Ev (fun k => crc_Open.f k R) (num I.size ++ I, 0)) (w : record_within.f I = some (k, e, s, d, true)) : Ev (fun n => record_Read.f n (R ++ b)) (k, e, s, d, 17 + (d.size : Int), 0) := by
 have hn : (0 : Int) ≤ (I.size : Int) ∧ (I.size : Int) ≤ 2147483647 := by omega
 have hz : (R ++ b).size = 17 + d.size + b.size := by rw [size_app, hR]
 have h4 := num_size hn
 have e1 := rN_one hn
 have e5 : (num I.size ++ I).extract 4 (num I.size ++ I).size = I := ext_tail _ _ _ _ h4.symm rfl
 have ew : wrap64 ((I.size : Int) + 8) = (R.size : Int) := by rw [wrap_id (by omega) (by omega)]; omega
 have hs5 : (num I.size ++ I).size = 4 + I.size := by rw [size_app, h4]
 have e6 : (R ++ b).extract 0 R.size = R := ext_front R b
 generalize num I.size ++ I = M at q e5 hs5
 generalize num I.size = N at e0 e1
 generalize hS : R ++ b = S at e0 hz e6 ⊢
 have e4 : Int.toNat 4 = 4 := rfl
 unfold record_Read.f
 simp only [e0, e4, code_NewReader.f, code_Reader_Err.f, Option.bind_some, rN_is, e1]
 refine ev_neg (by omega) (ev_pos (by decide) (ev_pos (by omega) (evr (ev_neg (by omega) ?_))))
 rw [decide_eq_false (by omega)]
 refine ev_off 1 ?_
 simp only [record_Read.j0, ew, Int.toNat_natCast, e6]
 refine ev_neg (by simp) (ev_neg (by omega) (ev_pos (by omega) (ev_pos (by omega) (ev_bind q ?_))))
 simp only [e5, w, Option.bind_some]
 refine evr (ev_pos (by omega) (evr ?_))
 rw [hR]
 exact Ev.now _
theorem read_yes (h : RR k e s d) (b : ByteArray) (hb : b.size ≤ 1000000000000000) : Ev (fun n => record_Read.f n (recB k e s d ++ b)) (k, e, s, d, 17 + (d.size : Int), 0) := by
 have hi := inn_size h
 have hd := h.2.2.2
 have hn : (0 : Int) ≤ ((inn k e s d).size : Int) ∧ ((inn k e s d).size : Int) ≤ 2147483647 := by omega
 refine read_any _ (inn k e s d) b d k e s hi hd (rec_size h) ?_ hb ?_ (within_is h)
 ·unfold recB sealB
  rw [app_assoc, app_assoc]
  exact ext_head _ _ _ (num_size hn).symm
 ·unfold recB
  exact open_seal _ (by rw [size_app, num_size hn]; omega)
end
theorem ext_ext (s : ByteArray) (a b : Nat) (h : b ≤ s.size) : (s.extract 0 b).extract a (s.extract 0 b).size = s.extract a b := by
 apply bytes_inj
 rw [bytes_drop, bytes_extract, bytes_extract]
 simp [List.drop_take]
theorem size_ext (s : ByteArray) (b : Nat) (h : b ≤ s.size) : (s.extract 0 b).size = b := by rw [ext_size]; omega
theorem read_short (p : ByteArray) (n : Int) (hn : 9 ≤ n ∧ n ≤ 73) (hc : (p.size : Int) < n + 8) (h4 : 4 ≤ p.size → p.extract 0 4 = num n) : Ev (fun k => record_Read.f k p) (0, 0, 0, (⟨#[]⟩ : ByteArray), 0, 2) := by
 unfold record_Read.f
 by_cases h : (p.size : Int) < 4
 ·exact ev_pos h (Ev.now _)
 ·have e4 : Int.toNat 4 = 4 := rfl
  have e0 := h4 (by omega)
  have e1 := rN_one (n := n) ⟨by omega, by omega⟩
  simp only [e4, e0, code_NewReader.f, code_Reader_Err.f, Option.bind_some, rN_is, e1]
  refine ev_neg h (ev_pos (by decide) (ev_pos (by omega) (evr (ev_neg (by omega) ?_))))
  rw [decide_eq_false (by omega)]
  refine ev_off 1 ?_
  simp only [record_Read.j0]
  rw [wrap_id (x := n + 8) (by omega) (by omega)]
  exact ev_neg (by simp) (ev_pos hc (Ev.now _))
theorem read_none : Ev (fun k => record_Read.f k ⟨#[]⟩) (0, 0, 0, (⟨#[]⟩ : ByteArray), 0, 2) := read_short ⟨#[]⟩ 9 (by decide) (by decide) (fun h => absurd h (by decide))
/-- A record's bytes, by the record. -/
def rb (x : S24) : ByteArray := recB x.f0 x.f1 x.f2 x.f3
def rz (x : S24) : Nat := 17 + x.f3.size
def recsB : List S24 → ByteArray
 | [] => ⟨#[]⟩
 | x :: L => rb x ++ recsB L
/-- Records of one epoch, numbered as they stand. -/
def Chain (e : Int) : Nat → List S24 → Prop
 | _, [] => True
 | n, x :: L => (RR x.f0 x.f1 x.f2 x.f3 ∧ x.f1 = e ∧ x.f2 = (n : Int)) ∧ Chain e (n + 1) L
theorem rb_size {x : S24} (h : RR x.f0 x.f1 x.f2 x.f3) : (rb x).size = rz x := rec_size h
theorem recs_size : ∀ (L : List S24) (e : Int) (n : Nat), Chain e n L → (recsB L).size ≤ 81 * L.length
 | [], _, _, _ => by show (0 : Nat) ≤ _; omega
 | x :: L, e, n, h => by
  have ih := recs_size L e (n + 1) h.2
  have h1 := rb_size h.1.1
  have h2 := h.1.1.2.2.2
  unfold rz at h1
  rw [recsB, size_app, List.length_cons]
  omega
theorem rb_front {x : S24} (h : RR x.f0 x.f1 x.f2 x.f3) (b : ByteArray) : (rb x ++ b).extract 0 4 = num (9 + (x.f3.size : Int)) := by
 have hi := inn_size h
 have hd := h.2.2.2
 have hn : (0 : Int) ≤ ((inn x.f0 x.f1 x.f2 x.f3).size : Int) ∧ ((inn x.f0 x.f1 x.f2 x.f3).size : Int) ≤ 2147483647 := by omega
 have e : ((inn x.f0 x.f1 x.f2 x.f3).size : Int) = 9 + (x.f3.size : Int) := by omega
 unfold rb recB sealB
 rw [app_assoc, app_assoc, ← e]
 exact ext_head _ _ _ (num_size hn).symm
theorem ext_cut (a b : ByteArray) (c : Nat) (h : c ≤ a.size) : (a ++ b).extract 0 c = a.extract 0 c := by
 apply bytes_inj
 rw [bytes_extract, bytes_extract, bytes_append]
 simp only [List.drop_zero, Nat.sub_zero]
 exact List.take_append_of_le_length (by rw [bytes_len]; exact h)
theorem ext_more (a b : ByteArray) (c : Nat) (h : a.size ≤ c) : (a ++ b).extract 0 c = a ++ b.extract 0 (c - a.size) := by
 apply bytes_inj
 rw [bytes_extract, bytes_append, bytes_append, bytes_extract]
 simp only [List.drop_zero, Nat.sub_zero]
 rw [List.take_append, bytes_len, List.take_of_length_le (by rw [bytes_len]; exact h)]
theorem ext_front4 (s : ByteArray) (c : Nat) (h : 4 ≤ c) : (s.extract 0 c).extract 0 4 = s.extract 0 4 := by
 apply bytes_inj
 rw [bytes_extract, bytes_extract, bytes_extract]
 simp only [List.drop_zero, Nat.sub_zero, List.take_take]
 congr 1; omega
theorem read_torn {x : S24} (h : RR x.f0 x.f1 x.f2 x.f3) (b : ByteArray) (c : Nat) (hc : c < rz x) : Ev (fun k => record_Read.f k ((rb x ++ b).extract 0 c)) (0, 0, 0, (⟨#[]⟩ : ByteArray), 0, 2) := by
 have hz := rb_size h
 have hd := h.2.2.2
 have hs : ((rb x ++ b).extract 0 c).size = c := size_ext _ _ (by rw [size_app]; omega)
 unfold rz at *
 refine read_short _ (9 + (x.f3.size : Int)) (by omega) (by omega) (fun h4 => ?_)
 rw [ext_front4 _ _ (by omega)]
 exact rb_front h b
/-- Those that are whole, and how many bytes they have. -/
def tk : List S24 → Nat → List S24 × Nat
 | [], _ => ([], 0)
 | x :: L, c => if rz x ≤ c then (x :: (tk L (c - rz x)).1, rz x + (tk L (c - rz x)).2) else ([], 0)
theorem tk_le : ∀ (L : List S24) (c : Nat), (tk L c).2 ≤ c ∧ (tk L c).1 = L.take (tk L c).1.length ∧ (tk L c).1.length ≤ L.length
 | [], c => by simp [tk]
 | x :: L, c => by
  have ih := tk_le L (c - rz x)
  unfold tk
  by_cases h : rz x ≤ c
  ·rw [if_pos h]
   refine ⟨by simp only; omega, ?_, by simp only [List.length_cons]; omega⟩
   simp only [List.length_cons, List.take_succ_cons]
   rw [← ih.2.1]
  ·rw [if_neg h]; simp
theorem tk_next : ∀ (L : List S24) (c : Nat) (h : (tk L c).1.length < L.length), c < (tk L c).2 + rz (L[(tk L c).1.length]'h)
 | [], c, h => by simp [tk] at h
 | x :: L, c, h => by
  unfold tk at h ⊢
  by_cases g : rz x ≤ c
  ·simp only [if_pos g] at h ⊢
   have ih := tk_next L (c - rz x) (by simpa using h)
   simp only [List.length_cons, List.getElem_cons_succ]
   omega
  ·simp only [if_neg g] at h ⊢
   simp
   omega
theorem tk_all : ∀ (L : List S24) (e : Int) (n : Nat), Chain e n L → ∀ c, ∀ x ∈ (tk L c).1, RR x.f0 x.f1 x.f2 x.f3
 | [], _, _, _, c, x, hx => by simp [tk] at hx
 | y :: L, e, n, h, c, x, hx => by
  unfold tk at hx
  by_cases g : rz y ≤ c
  ·rw [if_pos g] at hx
   rcases List.mem_cons.1 hx with rfl | hx
   ·exact h.1.1
   ·exact tk_all L e (n + 1) h.2 _ x hx
  ·rw [if_neg g] at hx; simp at hx
theorem tk_sum : ∀ (L : List S24) (c : Nat), ((tk L c).1.map rz).sum = (tk L c).2
 | [], c => by simp [tk]
 | x :: L, c => by
  have ih := tk_sum L (c - rz x)
  unfold tk
  by_cases g : rz x ≤ c
  ·rw [if_pos g]; simp only [List.map_cons, List.sum_cons]; omega
  ·rw [if_neg g]; simp
theorem scan_stop (S : ByteArray) (e : Int) (acc : List S24) (pos : Nat) (hp : pos ≤ S.size) (r : ByteArray) (hr : S.extract pos S.size = r) (q : Ev (fun k => record_Read.f k r) (0, 0, 0, (⟨#[]⟩ : ByteArray), 0, 2)) :
  Ev (fun k => record_Scan.l0 k S e acc pos) (acc, (pos : Int)) := by
 refine ev_off 1 ?_
 simp only [record_Scan.l0, Int.toNat_natCast, hr]
 exact ev_pos (by omega) (ev_pos (by omega) (ev_bind q (ev_neg (by simp) (Ev.now _))))
theorem scan_on (S : ByteArray) (e : Int) (acc : List S24) (pos : Nat) (hp : pos ≤ S.size) (hS : S.size ≤ 1000000000000000) (x : S24) (b : ByteArray) (h : RR x.f0 x.f1 x.f2 x.f3) (he : x.f1 = e) (hs : x.f2 = (acc.length : Int)) (ha : acc.length ≤ 1000000)
  (hr : S.extract pos S.size = rb x ++ b) (r : List S24 × Int) (q : Ev (fun k => record_Scan.l0 k S e (acc ++ [x]) ((pos + rz x : Nat) : Int)) r) : Ev (fun k => record_Scan.l0 k S e acc pos) r := by
 have hz := rb_size h
 have hd := h.2.2.2
 have hl : (rb x ++ b).size = S.size - pos := by rw [← hr, ext_size]; omega
 rw [size_app] at hl
 have hy := read_yes h b (by omega)
 refine ev_off 1 ?_
 simp only [record_Scan.l0, Int.toNat_natCast, hr]
 refine ev_pos (by omega) (ev_pos (by omega) (ev_bind hy (evr ?_)))
 refine ev_pos he (ev_pos hs (ev_pos (by omega) ?_))
 have ew : wrap64 ((pos : Int) + (17 + (x.f3.size : Int))) = ((pos + rz x : Nat) : Int) := by unfold rz at *; rw [wrap_id (by omega) (by omega)]; omega
 have ex : (⟨x.f0, x.f1, x.f2, x.f3⟩ : S24) = x := rfl
 simp only [ew]
 exact q
theorem scan_torn (S : ByteArray) (e : Int) (hS : S.size ≤ 1000000000000000) : ∀ (L : List S24) (acc : List S24) (pos c : Nat), Chain e acc.length L → pos ≤ S.size → c ≤ (recsB L).size → S.extract pos S.size = (recsB L).extract 0 c → acc.length + L.length ≤ 1000000 →
  Ev (fun k => record_Scan.l0 k S e acc pos) (acc ++ (tk L c).1, ((pos + (tk L c).2 : Nat) : Int))
 | [], acc, pos, c, _, hp, hc, hr, ha => by
  have e0 : (recsB []).extract 0 c = ⟨#[]⟩ := bytes_inj (by rw [bytes_extract]; show List.take _ (List.drop 0 (bytesOf ⟨#[]⟩)) = _; rw [bytes_empty]; simp)
  rw [e0] at hr
  have := scan_stop S e acc pos hp _ hr read_none
  simpa [tk] using this
 | x :: L, acc, pos, c, h, hp, hc, hr, ha => by
  have hz := rb_size h.1.1
  rw [recsB] at hr hc
  unfold tk
  by_cases g : rz x ≤ c
  ·rw [if_pos g]
   rw [ext_more _ _ _ (by omega)] at hr
   have hl : (rb x ++ (recsB L).extract 0 (c - (rb x).size)).size = S.size - pos := by rw [← hr, ext_size]; omega
   rw [size_app] at hl hc
   rw [size_ext _ _ (by omega)] at hl
   have hr2 : S.extract (pos + rz x) S.size = (recsB L).extract 0 (c - rz x) := by
    have e1 : S.extract (pos + rz x) S.size = (S.extract pos S.size).extract (rz x) (S.extract pos S.size).size := by
     apply bytes_inj
     rw [bytes_drop, bytes_drop, bytes_drop, List.drop_drop]
    rw [e1, hr, ← hz]
    exact ext_back _ _
   have ih := scan_torn S e hS L (acc ++ [x]) (pos + rz x) (c - rz x) (by simpa using h.2) (by omega) (by omega) hr2 (by simp at ha ⊢; omega)
   refine scan_on S e acc pos hp hS x _ h.1.1 h.1.2.1 h.1.2.2 (by simp at ha; omega) hr _ ?_
   have e3 : acc ++ x :: (tk L (c - rz x)).1 = acc ++ [x] ++ (tk L (c - rz x)).1 := by simp
   have e4 : pos + (rz x + (tk L (c - rz x)).2) = pos + rz x + (tk L (c - rz x)).2 := by omega
   simp only [e3, e4]
   exact ih
  ·rw [if_neg g]
   have := scan_stop S e acc pos hp _ hr (read_torn h.1.1 (recsB L) c (by omega))
   simpa using this
theorem scan_more (S : ByteArray) (e : Int) (hS : S.size ≤ 1000000000000000) (O : ByteArray) (stop : ∀ (acc : List S24) (pos : Nat), pos ≤ S.size → S.extract pos S.size = O → Ev (fun k => record_Scan.l0 k S e acc pos) (acc, (pos : Int))) :
  ∀ (L : List S24) (acc : List S24) (pos : Nat), Chain e acc.length L → pos ≤ S.size → S.extract pos S.size = recsB L ++ O → acc.length + L.length ≤ 1000000 → ∃ n : Int, Ev (fun k => record_Scan.l0 k S e acc pos) (acc ++ L, n)
 | [], acc, pos, _, hp, hr, _ => ⟨_, by
  have := stop acc pos hp (by rw [hr]; exact app_nil O)
  simpa using this⟩
 | x :: L, acc, pos, h, hp, hr, ha => by
  have hz := rb_size h.1.1
  rw [recsB, app_assoc] at hr
  have hl : (rb x ++ (recsB L ++ O)).size = S.size - pos := by rw [← hr, ext_size]; omega
  rw [size_app] at hl
  have hr2 : S.extract (pos + rz x) S.size = recsB L ++ O := by
   have e1 : S.extract (pos + rz x) S.size = (S.extract pos S.size).extract (rz x) (S.extract pos S.size).size := by
    apply bytes_inj
    rw [bytes_drop, bytes_drop, bytes_drop, List.drop_drop]
   rw [e1, hr, ← hz]
   exact ext_back _ _
  obtain ⟨n, ih⟩ := scan_more S e hS O stop L (acc ++ [x]) (pos + rz x) (by simpa using h.2) (by omega) hr2 (by simp at ha ⊢; omega)
  refine ⟨n, scan_on S e acc pos hp hS x _ h.1.1 h.1.2.1 h.1.2.2 (by simp at ha; omega) hr _ ?_⟩
  have e3 : acc ++ x :: L = acc ++ [x] ++ L := by simp
  rw [e3]
  exact ih
end Go.Proofs.Ytealbonfaebikaa.RecordTornRecord
