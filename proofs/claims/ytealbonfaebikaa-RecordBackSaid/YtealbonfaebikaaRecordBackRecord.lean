/- What the functions of layer 33, the program's and the document's, tell: records as bytes.
  Template: Ytealbonfaebikaa the seat's name, RecordBack the law's key; in pieces. -/
import Derived.Test.YtealbonfaebikaaRecordBackCode
namespace Go.Proofs.Ytealbonfaebikaa.RecordBackRecord
open Go.RowKit Go.Proofs.YtealbonfaebikaaW.PrintWords Go.Proofs.YtealbonfaebikaaW.PrintLast Go.Proofs.YtealbonfaebikaaW.PrintMore
open Go.Proofs.Ytealbonfaebikaa.PRecordBack Go.Proofs.Ytealbonfaebikaa.Utf Go.Proofs.Ytealbonfaebikaa.Open Go.Proofs.Ytealbonfaebikaa.RecordBackCode
set_option linter.unusedVariables false
set_option linter.unusedSimpArgs false

theorem lives_ : Ev (fun k => calamuslaw33_lives.f k) true := Ev.of calamuslaw33_lives.mono (k := 30) (by decide +kernel)
/-- Texts as one. -/
def glueB (l : List ByteArray) : ByteArray := ⟨(l.map (·.data.toList)).flatten.toArray⟩
theorem join_flat (xs : List (List UInt8)) : Lib.join xs [] = xs.flatten := by
 cases xs with
 | nil => rfl
 | cons x r =>
  rw [Lib.join_cons]
  unfold Lib.joinTail
  simp
theorem data_bytes (s : ByteArray) : bytesOf s = s.data.toList.map (fun b => (b.toNat : Int)) := rfl
theorem bytes_glue (l : List ByteArray) : bytesOf (glueB l) = l.flatMap bytesOf := by
 rw [data_bytes]
 show List.map _ (List.flatten _).toArray.toList = _
 simp only [List.map_flatten, List.map_map, List.flatMap]
 congr 1
theorem glue_size (l : List ByteArray) : (glueB l).size = (l.map ByteArray.size).sum := by
 rw [← bytes_len, bytes_glue, List.length_flatMap]
 congr 1
 apply List.map_congr_left
 intro s _
 exact bytes_len s
theorem glue_is (l : List ByteArray) (hl : l.length ≤ 1000000) (hs : (glueB l).size ≤ 140737488355328) : record_glue.f l = some (glueB l) := by
 unfold record_glue.f strings_Join.f
 have e : (⟨#[]⟩ : ByteArray).data.toList = ([] : List UInt8) := rfl
 rw [e, join_flat]
 have hz : ((l.map (·.data.toList)).flatten).length ≤ 140737488355328 := by
  have : (glueB l).size = ((l.map (·.data.toList)).flatten).length := by unfold glueB; simp [ByteArray.size]
  omega
 rw [if_pos ⟨hl, hz⟩]
 rfl
theorem one_byte (b : Int) (hb : 0 ≤ b ∧ b ≤ 255) : bytesOf (strOfNums [b]) = [b] := bytes_nums (by simpa using hb)
def RR (k e s : Int) (d : ByteArray) : Prop := (k = 1 ∨ k = 2) ∧ (1 ≤ e ∧ e ≤ 2147483647) ∧ (0 ≤ s ∧ s ≤ 2147483647) ∧ d.size ≤ 64
instance (k e s : Int) (d : ByteArray) : Decidable (RR k e s d) := by unfold RR; infer_instance
theorem right_is (k e s : Int) (d : ByteArray) : record_Right.f k e s d = some (decide (RR k e s d)) := by
 unfold record_Right.f
 by_cases h1 : k = 1
 ·rw [if_pos h1]
  by_cases a : e ≥ 1
  ·rw [if_pos a]
   by_cases b : e ≤ 2147483647
   ·rw [if_pos b]
    by_cases c : s ≥ 0
    ·rw [if_pos c]
     by_cases f : s ≤ 2147483647
     ·rw [if_pos f]; congr 1; rw [decide_eq_decide]; unfold RR; constructor
      ·intro h; exact ⟨.inl h1, ⟨a, b⟩, ⟨c, f⟩, by omega⟩
      ·rintro ⟨_, _, _, h⟩; omega
     ·rw [if_neg f, decide_eq_false (fun h => f h.2.2.1.2)]
    ·rw [if_neg c, decide_eq_false (fun h => c h.2.2.1.1)]
   ·rw [if_neg b, decide_eq_false (fun h => b h.2.1.2)]
  ·rw [if_neg a, decide_eq_false (fun h => a h.2.1.1)]
 ·rw [if_neg h1]
  by_cases h2 : k = 2
  ·rw [if_pos h2]
   by_cases a : e ≥ 1
   ·rw [if_pos a]
    by_cases b : e ≤ 2147483647
    ·rw [if_pos b]
     by_cases c : s ≥ 0
     ·rw [if_pos c]
      by_cases f : s ≤ 2147483647
      ·rw [if_pos f]; congr 1; rw [decide_eq_decide]; unfold RR; constructor
       ·intro h; exact ⟨.inr h2, ⟨a, b⟩, ⟨c, f⟩, by omega⟩
       ·rintro ⟨_, _, _, h⟩; omega
      ·rw [if_neg f, decide_eq_false (fun h => f h.2.2.1.2)]
     ·rw [if_neg c, decide_eq_false (fun h => c h.2.2.1.1)]
    ·rw [if_neg b, decide_eq_false (fun h => b h.2.1.2)]
   ·rw [if_neg a, decide_eq_false (fun h => a h.2.1.1)]
  ·rw [if_neg h2, decide_eq_false (fun h => by rcases h.1 with h | h; exact h1 h; exact h2 h)]
/-- A text's sum, and its bytes. -/
def sumV (s : ByteArray) : Int := wrap64 (Go.bits .xor .u32 ((bytesOf s).foldl crcB 4294967295) 4294967295)
def cb (v : Int) : ByteArray := strOfNums [sumByte v 0, sumByte v 1, sumByte v 2, sumByte v 3]
theorem cb_bytes (v : Int) : bytesOf (cb v) = [sumByte v 0, sumByte v 1, sumByte v 2, sumByte v 3] := by
 have hb : ∀ i, 0 ≤ sumByte v i ∧ sumByte v i ≤ 255 := fun i => by unfold sumByte; omega
 exact bytes_nums (by
  intro x hx
  simp only [List.mem_cons, List.not_mem_nil, or_false] at hx
  rcases hx with rfl | rfl | rfl | rfl <;> exact hb _)
theorem cb_size (v : Int) : (cb v).size = 4 := by rw [← bytes_len, cb_bytes]; rfl
theorem sum_is (s : ByteArray) (hs : s.size ≤ 1152921504606846976) : Ev (fun k => crc_Sum.f k [s]) (sumV s) := by
 refine ev_from 2 fun k => ?_
 show crc_Sum.l0 (k + 2) 4294967295 [s] 1 0 = _
 rw [crc_Sum.l0, if_pos (by decide), if_pos (by decide), if_pos (by simp)]
 have e : rdOf ByteArray.empty [s] 0 = s := rfl
 rw [e]
 unfold crc_run.f
 rw [if_pos hs]
 simp only [Option.bind_some]
 rw [wrap_id (x := (0 : Int) + 1) (by omega) (by omega), crc_Sum.l0, if_neg (by decide)]
 rfl
/-- With its sum behind it. -/
def sealB (s : ByteArray) : ByteArray := s ++ cb (sumV s)
theorem seal_is (s : ByteArray) (hs : s.size ≤ 1152921504606846976) : Ev (fun k => crc_Seal.f k s) (sealB s) := by
 unfold crc_Seal.f crc_bytes.f
 refine ev_bind (sum_is s hs) ?_
 simp only [Option.bind_some]
 have := cb_size (sumV s)
 exact ev_pos (by show s.size + (cb (sumV s)).size ≤ _; omega) (Ev.now _)
/-- What a record has within, and its bytes. -/
def inn (k e s : Int) (d : ByteArray) : ByteArray := glueB [strOfNums [k % 256], num e, num s, d]
def recB (k e s : Int) (d : ByteArray) : ByteArray := sealB (num (inn k e s d).size ++ inn k e s d)
section
variable {k e s : Int} {d : ByteArray}
theorem inn_bytes (h : RR k e s d) : bytesOf (inn k e s d) = k :: (enc e ++ (enc s ++ bytesOf d)) := by
 have hk : k % 256 = k := by rcases h.1 with h | h <;> omega
 have h1 : bytesOf (strOfNums [k % 256]) = [k] := by rw [hk]; exact one_byte k (by rcases h.1 with h | h <;> omega)
 unfold inn
 rw [bytes_glue]
 simp [h1, bytes_num]
theorem inn_size (h : RR k e s d) : (inn k e s d).size = 9 + d.size := by
 rw [← bytes_len, inn_bytes h, enc_yes ⟨by have := h.2.1; omega, h.2.1.2⟩, enc_yes h.2.2.1]
 simp [bytes_len]
 omega
theorem rec_size (h : RR k e s d) : (recB k e s d).size = 17 + d.size := by
 have h1 := inn_size h
 have h2 := h.2.2.2
 have h3 : (num (inn k e s d).size).size = 4 := num_size (by omega)
 unfold recB sealB
 rw [size_app, size_app, cb_size, h3, h1]
 omega
theorem bytes_yes (h : RR k e s d) : Ev (fun n => record_Bytes.f n k e s d) (recB k e s d) := by
 unfold record_Bytes.f
 rw [right_is, decide_eq_true h]
 simp only [Option.bind_some]
 have h1 := inn_size h
 have h2 := h.2.2.2
 refine evr (ev_bind (num_any _) (ev_bind (num_any _) ?_))
 rw [glue_is _ (by simp) (by show (inn k e s d).size ≤ _; omega)]
 simp only [Option.bind_some]
 refine ev_bind (text_any _ (by show (inn k e s d).size ≤ _; omega)) ?_
 rw [if_pos (by show ((inn k e s d).size : Int) ≤ _; omega)]
 refine ev_bind (seal_is _ ?_) (Ev.now _)
 rw [size_app]
 have := num_le ((inn k e s d).size : Int)
 show (num ((inn k e s d).size : Int)).size + (inn k e s d).size ≤ _
 omega
theorem bytes_no (h : ¬ RR k e s d) : Ev (fun n => record_Bytes.f n k e s d) ⟨#[]⟩ := by
 unfold record_Bytes.f
 rw [right_is, decide_eq_false h]
 simp only [Option.bind_some]
 exact ev_neg (by simp) (Ev.now _)
end
theorem cb_is (v : Int) : crc_bytes.f v = some (cb v) := rfl
theorem open_seal (s : ByteArray) (hs : s.size ≤ 1000000) : Ev (fun k => crc_Open.f k (sealB s)) (s, 0) := by
 have hz : (sealB s).size = s.size + 4 := by unfold sealB; rw [size_app, cb_size]
 have ew : wrap64 (((sealB s).size : Int) - 4) = (s.size : Int) := by rw [wrap_id (by omega) (by omega)]; omega
 have e1 : (sealB s).extract 0 s.size = s := by unfold sealB; exact ext_front s _
 have e2 : (sealB s).extract s.size (sealB s).size = cb (sumV s) := by unfold sealB; exact ext_back s _
 have q := sum_is s (Nat.le_trans hs (by decide))
 generalize sumV s = v at q e2
 generalize sealB s = S at hz ew e1 e2 ⊢
 unfold crc_Open.f
 simp only [ew, Int.toNat_natCast, e1, e2, cb_is, Option.bind_some]
 refine ev_neg (by omega) (ev_pos (by omega) (ev_pos (by omega) ?_))
 exact ev_bind q (evr (Ev.now _))
section
variable {k e s : Int} {d : ByteArray}
theorem ext_tail (a b : ByteArray) (n m : Nat) (hn : n = a.size) (hm : m = (a ++ b).size) : (a ++ b).extract n m = b := by subst hn; subst hm; exact ext_back a b
theorem ext_head (a b : ByteArray) (n : Nat) (hn : n = a.size) : (a ++ b).extract 0 n = a := by subst hn; exact ext_front a b
theorem inn_parts (h : RR k e s d) : inn k e s d = strOfNums [k] ++ (num e ++ (num s ++ d)) := by
 have hk : k % 256 = k := by rcases h.1 with h | h <;> omega
 apply bytes_inj
 rw [inn_bytes h, bytes_append, bytes_append, bytes_append, bytes_num, bytes_num, one_byte k (by rcases h.1 with h | h <;> omega)]
 rfl
theorem within_is (h : RR k e s d) : record_within.f (inn k e s d) = some (k, e, s, d, true) := by
 have hs := inn_size h
 have hk : 0 ≤ k ∧ k ≤ 255 := by rcases h.1 with h | h <;> omega
 have h1 : (strOfNums [k]).size = 1 := by rw [← bytes_len, one_byte k hk]; rfl
 have hd := h.2.2.2
 unfold record_within.f
 rw [if_pos (by omega), if_pos (by omega)]
 have e1 : (inn k e s d).extract 1 (inn k e s d).size = num e ++ (num s ++ d) := by rw [inn_parts h]; exact ext_tail _ _ _ _ h1.symm rfl
 have eb : wrap64 (bt (inn k e s d) 0) = k := by
  rw [bytes_get, inn_bytes h]
  exact wrap_id (by simp; omega) (by simp; omega)
 rw [e1, eb]
 simp only [code_NewReader.f, code_Reader_Left.f, code_Reader_Err.f, Option.bind_some, rN_is, rN_back (show 0 ≤ e ∧ e ≤ 2147483647 from ⟨by have := h.2.1; omega, h.2.1.2⟩), rN_back h.2.2.1]
 have ew : wrap64 (((inn k e s d).size : Int) - (d.size : Int)) = (9 : Int) := by rw [hs, wrap_id (by omega) (by omega)]; omega
 rw [ew, if_pos (by decide), if_pos (by omega)]
 have e2 : (inn k e s d).extract (Int.toNat 9) (inn k e s d).size = d := by
  have q : inn k e s d = (strOfNums [k] ++ (num e ++ num s)) ++ d := by rw [inn_parts h]; simp only [app_assoc]
  rw [q]
  refine ext_tail _ _ _ _ ?_ rfl
  rw [size_app, size_app, h1, num_size ⟨by have := h.2.1; omega, h.2.1.2⟩, num_size h.2.2.1]; rfl
 rw [e2, right_is, decide_eq_true h]
 simp
theorem rN_one {n : Int} (h : 0 ≤ n ∧ n ≤ 2147483647) : rN (num n) 0 = (n, (⟨#[]⟩ : ByteArray), (0 : Int)) := by
 have q := rN_back h ⟨#[]⟩
 have e : num n ++ (⟨#[]⟩ : ByteArray) = num n := bytes_inj (by rw [bytes_append]; exact List.append_nil _)
 rw [e] at q
 exact q
theorem read_any (R I b d : ByteArray) (k e s : Int) (hI : I.size = 9 + d.size) (hd : d.size ≤ 64) (hR : R.size = 17 + d.size) (e0 : (R ++ b).extract 0 4 = num I.size) (hb : b.size ≤ 1000000000000000)
  (q : Ev (fun k => crc_Open.f k R) (num I.size ++ I, 0)) (w : record_within.f I = some (k, e, s, d, true)) : Ev (fun n => record_Read.f n (R ++ b)) (k, e, s, d, 17 + (d.size : Int), 0) := by
 have hn : (0 : Int) ≤ (I.size : Int) ∧ (I.size : Int) ≤ 2147483647 := by omega
 have hz : (R ++ b).size = 17 + d.size + b.size := by rw [size_app, hR]
 have h4 := num_size hn
 have e1 := rN_one hn
 have e5 : (num I.size ++ I).extract 4 (num I.size ++ I).size = I := ext_tail _ _ _ _ h4.symm rfl
 have ew : wrap64 ((I.size : Int) + 8) = (R.size : Int) := by rw [wrap_id (by omega) (by omega)]; omega
 have hs5 : (num I.size ++ I).size = 4 + I.size := by rw [size_app, h4]
 have e6 : (R ++ b).extract 0 R.size = R := ext_front R b
 generalize num I.size ++ I = M at q e5 hs5
 generalize num I.size = N at e0 e1
 generalize hS : R ++ b = S at e0 hz e6 ⊢
 have e4 : Int.toNat 4 = 4 := rfl
 unfold record_Read.f
 simp only [e0, e4, code_NewReader.f, code_Reader_Err.f, Option.bind_some, rN_is, e1]
 refine ev_neg (by omega) (ev_pos (by decide) (ev_pos (by omega) (evr (ev_neg (by omega) ?_))))
 rw [decide_eq_false (by omega)]
 refine ev_off 1 ?_
 simp only [record_Read.j0, ew, Int.toNat_natCast, e6]
 refine ev_neg (by simp) (ev_neg (by omega) (ev_pos (by omega) (ev_pos (by omega) (ev_bind q ?_))))
 simp only [e5, w, Option.bind_some]
 refine evr (ev_pos (by omega) (evr ?_))
 rw [hR]
 exact Ev.now _
theorem read_yes (h : RR k e s d) (b : ByteArray) (hb : b.size ≤ 1000000000000000) : Ev (fun n => record_Read.f n (recB k e s d ++ b)) (k, e, s, d, 17 + (d.size : Int), 0) := by
 have hi := inn_size h
 have hd := h.2.2.2
 have hn : (0 : Int) ≤ ((inn k e s d).size : Int) ∧ ((inn k e s d).size : Int) ≤ 2147483647 := by omega
 refine read_any _ (inn k e s d) b d k e s hi hd (rec_size h) ?_ hb ?_ (within_is h)
 ·unfold recB sealB
  rw [app_assoc, app_assoc]
  exact ext_head _ _ _ (num_size hn).symm
 ·unfold recB
  exact open_seal _ (by rw [size_app, num_size hn]; omega)
end
end Go.Proofs.Ytealbonfaebikaa.RecordBackRecord
