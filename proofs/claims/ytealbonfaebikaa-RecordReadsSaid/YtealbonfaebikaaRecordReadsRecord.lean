/- What the functions of layer 33, the program's and the document's, tell: records as bytes.
  Template: Ytealbonfaebikaa the seat's name, RecordReads the law's key; in pieces. -/
import Derived.Test.YtealbonfaebikaaRecordReadsCode
namespace Go.Proofs.Ytealbonfaebikaa.RecordReadsRecord
open Go.RowKit Go.Proofs.YtealbonfaebikaaW.PrintWords Go.Proofs.YtealbonfaebikaaW.PrintLast Go.Proofs.YtealbonfaebikaaW.PrintMore
open Go.Proofs.Ytealbonfaebikaa.PRecordReads Go.Proofs.Ytealbonfaebikaa.Utf Go.Proofs.Ytealbonfaebikaa.Open Go.Proofs.Ytealbonfaebikaa.RecordReadsCode
set_option linter.unusedVariables false
set_option linter.unusedSimpArgs false

theorem lives_ : Ev (fun k => calamuslaw33_lives.f k) true := Ev.of calamuslaw33_lives.mono (k := 30) (by decide +kernel)
/-- Texts as one. -/
def glueB (l : List ByteArray) : ByteArray := ⟨(l.map (·.data.toList)).flatten.toArray⟩
theorem join_flat (xs : List (List UInt8)) : Lib.join xs [] = xs.flatten := by
 cases xs with
 | nil => rfl
 | cons x r =>
  rw [Lib.join_cons]
  unfold Lib.joinTail
  simp
theorem data_bytes (s : ByteArray) : bytesOf s = s.data.toList.map (fun b => (b.toNat : Int)) := rfl
theorem bytes_glue (l : List ByteArray) : bytesOf (glueB l) = l.flatMap bytesOf := by
 rw [data_bytes]
 show List.map _ (List.flatten _).toArray.toList = _
 simp only [List.map_flatten, List.map_map, List.flatMap]
 congr 1
theorem glue_size (l : List ByteArray) : (glueB l).size = (l.map ByteArray.size).sum := by
 rw [← bytes_len, bytes_glue, List.length_flatMap]
 congr 1
 apply List.map_congr_left
 intro s _
 exact bytes_len s
theorem glue_is (l : List ByteArray) (hl : l.length ≤ 1000000) (hs : (glueB l).size ≤ 140737488355328) : record_glue.f l = some (glueB l) := by
 unfold record_glue.f strings_Join.f
 have e : (⟨#[]⟩ : ByteArray).data.toList = ([] : List UInt8) := rfl
 rw [e, join_flat]
 have hz : ((l.map (·.data.toList)).flatten).length ≤ 140737488355328 := by
  have : (glueB l).size = ((l.map (·.data.toList)).flatten).length := by unfold glueB; simp [ByteArray.size]
  omega
 rw [if_pos ⟨hl, hz⟩]
 rfl
theorem one_byte (b : Int) (hb : 0 ≤ b ∧ b ≤ 255) : bytesOf (strOfNums [b]) = [b] := bytes_nums (by simpa using hb)
def RR (k e s : Int) (d : ByteArray) : Prop := (k = 1 ∨ k = 2) ∧ (1 ≤ e ∧ e ≤ 2147483647) ∧ (0 ≤ s ∧ s ≤ 2147483647) ∧ d.size ≤ 64
instance (k e s : Int) (d : ByteArray) : Decidable (RR k e s d) := by unfold RR; infer_instance
theorem right_is (k e s : Int) (d : ByteArray) : record_Right.f k e s d = some (decide (RR k e s d)) := by
 unfold record_Right.f
 by_cases h1 : k = 1
 ·rw [if_pos h1]
  by_cases a : e ≥ 1
  ·rw [if_pos a]
   by_cases b : e ≤ 2147483647
   ·rw [if_pos b]
    by_cases c : s ≥ 0
    ·rw [if_pos c]
     by_cases f : s ≤ 2147483647
     ·rw [if_pos f]; congr 1; rw [decide_eq_decide]; unfold RR; constructor
      ·intro h; exact ⟨.inl h1, ⟨a, b⟩, ⟨c, f⟩, by omega⟩
      ·rintro ⟨_, _, _, h⟩; omega
     ·rw [if_neg f, decide_eq_false (fun h => f h.2.2.1.2)]
    ·rw [if_neg c, decide_eq_false (fun h => c h.2.2.1.1)]
   ·rw [if_neg b, decide_eq_false (fun h => b h.2.1.2)]
  ·rw [if_neg a, decide_eq_false (fun h => a h.2.1.1)]
 ·rw [if_neg h1]
  by_cases h2 : k = 2
  ·rw [if_pos h2]
   by_cases a : e ≥ 1
   ·rw [if_pos a]
    by_cases b : e ≤ 2147483647
    ·rw [if_pos b]
     by_cases c : s ≥ 0
     ·rw [if_pos c]
      by_cases f : s ≤ 2147483647
      ·rw [if_pos f]; congr 1; rw [decide_eq_decide]; unfold RR; constructor
       ·intro h; exact ⟨.inr h2, ⟨a, b⟩, ⟨c, f⟩, by omega⟩
       ·rintro ⟨_, _, _, h⟩; omega
      ·rw [if_neg f, decide_eq_false (fun h => f h.2.2.1.2)]
     ·rw [if_neg c, decide_eq_false (fun h => c h.2.2.1.1)]
    ·rw [if_neg b, decide_eq_false (fun h => b h.2.1.2)]
   ·rw [if_neg a, decide_eq_false (fun h => a h.2.1.1)]
  ·rw [if_neg h2, decide_eq_false (fun h => by rcases h.1 with h | h; exact h1 h; exact h2 h)]
/-- A text's sum, and its bytes. -/
def sumV (s : ByteArray) : Int := wrap64 (Go.bits .xor .u32 ((bytesOf s).foldl crcB 4294967295) 4294967295)
def cb (v : Int) : ByteArray := strOfNums [sumByte v 0, sumByte v 1, sumByte v 2, sumByte v 3]
theorem cb_bytes (v : Int) : bytesOf (cb v) = [sumByte v 0, sumByte v 1, sumByte v 2, sumByte v 3] := by
 have hb : ∀ i, 0 ≤ sumByte v i ∧ sumByte v i ≤ 255 := fun i => by unfold sumByte; omega
 exact bytes_nums (by
  intro x hx
  simp only [List.mem_cons, List.not_mem_nil, or_false] at hx
  rcases hx with rfl | rfl | rfl | rfl <;> exact hb _)
theorem cb_size (v : Int) : (cb v).size = 4 := by rw [← bytes_len, cb_bytes]; rfl
theorem sum_is (s : ByteArray) (hs : s.size ≤ 1152921504606846976) : Ev (fun k => crc_Sum.f k [s]) (sumV s) := by
 refine ev_from 2 fun k => ?_
 show crc_Sum.l0 (k + 2) 4294967295 [s] 1 0 = _
 rw [crc_Sum.l0, if_pos (by decide), if_pos (by decide), if_pos (by simp)]
 have e : rdOf ByteArray.empty [s] 0 = s := rfl
 rw [e]
 unfold crc_run.f
 rw [if_pos hs]
 simp only [Option.bind_some]
 rw [wrap_id (x := (0 : Int) + 1) (by omega) (by omega), crc_Sum.l0, if_neg (by decide)]
 rfl
/-- With its sum behind it. -/
def sealB (s : ByteArray) : ByteArray := s ++ cb (sumV s)
theorem seal_is (s : ByteArray) (hs : s.size ≤ 1152921504606846976) : Ev (fun k => crc_Seal.f k s) (sealB s) := by
 unfold crc_Seal.f crc_bytes.f
 refine ev_bind (sum_is s hs) ?_
 simp only [Option.bind_some]
 have := cb_size (sumV s)
 exact ev_pos (by show s.size + (cb (sumV s)).size ≤ _; omega) (Ev.now _)
/-- A register, in bits. -/
def I (v : BitVec 32) : Int := (v.toNat : Int)
theorem I_range (v : BitVec 32) : 0 ≤ I v ∧ I v < 4294967296 := by have := v.isLt; unfold I; omega
theorem I_inj {a b : BitVec 32} (h : I a = I b) : a = b := by unfold I at h; exact BitVec.eq_of_toNat_eq (by omega)
theorem bits_xor (k : IntKind) (hk : 32 ≤ k.bits) (hw : ∀ n : Int, 0 ≤ n → n < 2 ^ 32 → k.wrap n = n) (a b : BitVec 32) : Go.bits .xor k (I a) (I b) = I (a ^^^ b) := by
 have ha := a.isLt
 have hb := b.isLt
 have hp : 2 ^ 32 ≤ 2 ^ k.bits := Nat.pow_le_pow_right (by decide) hk
 have ha' : a.toNat % 2 ^ k.bits = a.toNat := Nat.mod_eq_of_lt (Nat.lt_of_lt_of_le ha hp)
 have hb' : b.toNat % 2 ^ k.bits = b.toNat := Nat.mod_eq_of_lt (Nat.lt_of_lt_of_le hb hp)
 have hx : a.toNat ^^^ b.toNat < 2 ^ 32 := Nat.xor_lt_two_pow ha hb
 unfold I
 simp only [Go.bits, BitVec.ofInt_natCast, BitVec.toNat_xor, BitVec.toNat_ofNat, ha', hb']
 exact hw _ (Int.natCast_nonneg _) (by exact_mod_cast hx)
theorem bits_and (k : IntKind) (hk : 32 ≤ k.bits) (hw : ∀ n : Int, 0 ≤ n → n < 2 ^ 32 → k.wrap n = n) (a b : BitVec 32) : Go.bits .and k (I a) (I b) = I (a &&& b) := by
 have ha := a.isLt
 have hb := b.isLt
 have hp : 2 ^ 32 ≤ 2 ^ k.bits := Nat.pow_le_pow_right (by decide) hk
 have ha' : a.toNat % 2 ^ k.bits = a.toNat := Nat.mod_eq_of_lt (Nat.lt_of_lt_of_le ha hp)
 have hb' : b.toNat % 2 ^ k.bits = b.toNat := Nat.mod_eq_of_lt (Nat.lt_of_lt_of_le hb hp)
 have hx : a.toNat &&& b.toNat < 2 ^ 32 := Nat.and_lt_two_pow _ hb
 unfold I
 simp only [Go.bits, BitVec.ofInt_natCast, BitVec.toNat_and, BitVec.toNat_ofNat, ha', hb']
 exact hw _ (Int.natCast_nonneg _) (by exact_mod_cast hx)
theorem u32_w : ∀ n : Int, 0 ≤ n → n < 2 ^ 32 → IntKind.u32.wrap n = n := fun n h0 h1 => by
 show n % 4294967296 = n
 omega
theorem i64_ww : ∀ n : Int, 0 ≤ n → n < 2 ^ 32 → IntKind.i64.wrap n = n := fun n h0 h1 => by
 rw [Go.IntKind.wrap_i64]; omega
theorem xor32 (a b : BitVec 32) : Go.bits .xor .u32 (I a) (I b) = I (a ^^^ b) := bits_xor .u32 (by decide) u32_w a b
theorem xor64 (a b : BitVec 32) : Go.bits .xor .i64 (I a) (I b) = I (a ^^^ b) := bits_xor .i64 (by decide) i64_ww a b
theorem and32 (a b : BitVec 32) : Go.bits .and .u32 (I a) (I b) = I (a &&& b) := bits_and .u32 (by decide) u32_w a b
def TB : BitVec 32 := 3988292384#32
def FB : BitVec 32 := 4294967295#32
theorem I_TB : I TB = 3988292384 := rfl
theorem I_FB : I FB = 4294967295 := rfl
/-- A step of a register. -/
def stB (x : BitVec 32) : BitVec 32 := if x.getLsbD 0 = true then (x >>> 1) ^^^ TB else x >>> 1
def stn : Nat → BitVec 32 → BitVec 32
 | 0, x => x
 | n + 1, x => stB (stn n x)
theorem I_shr (x : BitVec 32) (n : Nat) : I (x >>> n) = I x / ((2 ^ n : Nat) : Int) := by
 unfold I
 rw [BitVec.toNat_ushiftRight, Nat.shiftRight_eq_div_pow]
 exact Int.natCast_ediv _ _
theorem I_odd (x : BitVec 32) : I x % 2 = 1 ↔ x.getLsbD 0 = true := by
 unfold I
 rw [BitVec.getLsbD, Nat.testBit_zero, decide_eq_true_eq]
 omega
theorem cst_I (x : BitVec 32) : cst (I x) = I (stB x) := by
 have e1 : Go.bits .and .u32 (I x) 1 = I (x &&& 1#32) := by rw [← and32]; rfl
 have e2 : I (x &&& 1#32) = I x % 2 := by
  unfold I
  rw [BitVec.toNat_and]
  show ((x.toNat &&& 1 : Nat) : Int) = _
  rw [Nat.and_one_is_mod]; omega
 have e3 := I_shr x 1
 have e4 : ((2 ^ 1 : Nat) : Int) = 2 := rfl
 rw [e4] at e3
 unfold cst stB
 rw [e1, e2]
 by_cases h : x.getLsbD 0 = true
 ·rw [if_pos ((I_odd x).2 h), if_pos h, ← e3, ← I_TB, xor32]
 ·rw [if_neg (fun g => h ((I_odd x).1 g)), if_neg h, e3]
theorem cstn_I (n : Nat) (x : BitVec 32) : cstn n (I x) = I (stn n x) := by
 induction n with
 | zero => rfl
 | succ n ih => rw [cstn, ih, cst_I]; rfl
theorem stB_xor (a b : BitVec 32) : stB (a ^^^ b) = stB a ^^^ stB b := by
 unfold stB
 rw [BitVec.getLsbD_xor, BitVec.ushiftRight_xor_distrib]
 cases ha : a.getLsbD 0 <;> cases hb : b.getLsbD 0 <;> simp
 ·rw [BitVec.xor_assoc]
 ·rw [BitVec.xor_assoc, BitVec.xor_assoc, BitVec.xor_comm TB]
 ·rw [BitVec.xor_assoc (a >>> 1) TB, ← BitVec.xor_assoc TB, BitVec.xor_comm TB (b >>> 1), BitVec.xor_assoc (b >>> 1), BitVec.xor_self, BitVec.xor_zero]
theorem stn_xor (n : Nat) (a b : BitVec 32) : stn n (a ^^^ b) = stn n a ^^^ stn n b := by
 induction n with
 | zero => rfl
 | succ n ih => rw [stn, ih, stB_xor]; rfl
theorem stn_add (n m : Nat) (x : BitVec 32) : stn n (stn m x) = stn (n + m) x := by
 induction n with
 | zero => simp [stn]
 | succ n ih => rw [stn, ih, Nat.succ_add]; rfl
theorem bit15 (j : Nat) : (15#32).getLsbD j = decide (j < 4) := by
 by_cases h : j < 32
 ·have : ∀ j : Fin 32, (15#32).getLsbD j.val = decide (j.val < 4) := by decide
  exact this ⟨j, h⟩
 ·rw [BitVec.getLsbD_of_ge _ _ (by omega), decide_eq_false (by omega)]
theorem stB_even (y : BitVec 32) (h : y.getLsbD 0 = false) : stB y = y >>> 1 := by unfold stB; rw [h]; simp
theorem st_high (x : BitVec 32) : stn 4 (x &&& ~~~15#32) = x >>> 4 := by
 have hy : ∀ j, (x &&& ~~~15#32).getLsbD j = (x.getLsbD j && !decide (j < 4)) := fun j => by
  rw [BitVec.getLsbD_and, BitVec.getLsbD_not, bit15]
  by_cases h : j < 32
  ·simp [h]
  ·rw [BitVec.getLsbD_of_ge x j (by omega)]; simp
 generalize x &&& ~~~15#32 = y at hy
 have s1 : stn 1 y = y >>> 1 := stB_even y (by rw [hy]; simp)
 have s2 : stn 2 y = y >>> 1 >>> 1 := by rw [stn, s1]; exact stB_even _ (by rw [BitVec.getLsbD_ushiftRight, hy]; simp)
 have s3 : stn 3 y = y >>> 1 >>> 1 >>> 1 := by rw [stn, s2]; exact stB_even _ (by rw [BitVec.getLsbD_ushiftRight, BitVec.getLsbD_ushiftRight, hy]; simp)
 have s4 : stn 4 y = y >>> 1 >>> 1 >>> 1 >>> 1 := by rw [stn, s3]; exact stB_even _ (by rw [BitVec.getLsbD_ushiftRight, BitVec.getLsbD_ushiftRight, BitVec.getLsbD_ushiftRight, hy]; simp)
 rw [s4]
 apply BitVec.eq_of_getLsbD_eq
 intro i hi
 simp only [BitVec.getLsbD_ushiftRight, hy]
 rw [show 1 + (1 + (1 + (1 + i))) = 4 + i from by omega]
 simp
theorem split15 (x : BitVec 32) : x = (x &&& ~~~15#32) ^^^ (x &&& 15#32) := by
 apply BitVec.eq_of_getLsbD_eq
 intro i hi
 rw [BitVec.getLsbD_xor, BitVec.getLsbD_and, BitVec.getLsbD_and, BitVec.getLsbD_not]
 cases x.getLsbD i <;> cases (15#32).getLsbD i <;> simp [hi]
theorem st_four (x : BitVec 32) : (x >>> 4) ^^^ stn 4 (x &&& 15#32) = stn 4 x := by
 conv => rhs; rw [split15 x, stn_xor, st_high]
theorem hv_I (v : BitVec 32) : hv (I v).toNat = I (stn 4 v) := by
 unfold hv
 rw [← cstn_I]
 congr 1
theorem I_shr4 (x : BitVec 32) : I x / (16 : Int) = I (x >>> 4) := (I_shr x 4).symm
theorem crcB_I (r b : BitVec 32) : crcB (I r) (I b) = I (stn 8 (r ^^^ b)) := by
 have h15 : (15 : Int) = I 15#32 := rfl
 unfold crcB
 simp only [xor32, h15, and32, hv_I, I_shr4, st_four]
 rw [stn_add]
theorem byte_I (b : Int) (h : 0 ≤ b ∧ b ≤ 255) : b = I (BitVec.ofNat 32 b.toNat) := by
 unfold I
 rw [BitVec.toNat_ofNat, Nat.mod_eq_of_lt (by omega)]; omega
/-- A register behind bytes. -/
def reg (r : BitVec 32) (l : List Int) : BitVec 32 := l.foldl (fun r b => stn 8 (r ^^^ BitVec.ofNat 32 b.toNat)) r
theorem fold_reg (l : List Int) (h : ∀ x ∈ l, 0 ≤ x ∧ x ≤ 255) : ∀ r, l.foldl crcB (I r) = I (reg r l) := by
 induction l with
 | nil => intro r; rfl
 | cons b l ih =>
  intro r
  have hb := h b (by simp)
  rw [List.foldl_cons, byte_I b hb, crcB_I, ih (fun x hx => h x (by simp [hx]))]
  rw [← byte_I b hb]; rfl
theorem sum_reg (s : ByteArray) : sumV s = I (reg FB (bytesOf s) ^^^ FB) := by
 unfold sumV
 rw [← I_FB, fold_reg _ (bytes_range s), xor32]
 have := I_range (reg FB (bytesOf s) ^^^ FB)
 exact wrap_id (by omega) (by omega)
theorem rstep_l (x : BitVec 32) (d : Nat) : ∀ i : Nat, i + d = 8 → Ev (fun k => calamusref02_step.l0 k (I (stn i x)) i) (I (stn 8 x)) := by
 induction d with
 | zero =>
  intro i hi
  refine ev_off 1 ?_
  simp only [calamusref02_step.l0]
  rw [show i = 8 from by omega]
  exact ev_neg (by decide) (Ev.now _)
 | succ d ih =>
  intro i hi
  have hr := I_range (stn i x)
  have q := ih (i + 1) (by omega)
  have e1 : Int.tmod (I (stn i x)) 2 = I (stn i x) % 2 := Int.tmod_eq_emod_of_nonneg hr.1
  have e2 : wrap64 (Int.tdiv (I (stn i x)) 2) = I (stn i x >>> 1) := by
   rw [I_shr, Int.tdiv_eq_ediv_of_nonneg hr.1]
   show wrap64 (I (stn i x) / 2) = I (stn i x) / 2
   exact wrap_id (by omega) (by omega)
  refine ev_off 1 ?_
  simp only [calamusref02_step.l0, e1, e2]
  rw [wrap_id (x := (i : Int) + 1) (by omega) (by omega)]
  refine ev_pos (by omega) ?_
  by_cases h : (stn i x).getLsbD 0 = true
  ·refine ev_pos ((I_odd _).2 h) ?_
   rw [← I_TB, xor64]
   have e : stn (i + 1) x = stn i x >>> 1 ^^^ TB := by rw [stn, stB, if_pos h]
   rw [e] at q
   exact q
  ·refine ev_neg (fun g => h ((I_odd _).1 g)) ?_
   have e : stn (i + 1) x = stn i x >>> 1 := by rw [stn, stB, if_neg h]
   rw [e] at q
   exact q
theorem rstep_is (x : BitVec 32) : Ev (fun k => calamusref02_step.f k (I x)) (I (stn 8 x)) := rstep_l x 8 0 (by omega)
theorem rmore_l (s : ByteArray) (hs : s.size ≤ 1000000) (d : Nat) : ∀ (i : Nat) (r : BitVec 32), i + d = s.size → Ev (fun k => calamusref02_More.l0 k s (I r) i) (I (reg r ((bytesOf s).drop i) ^^^ FB)) := by
 induction d with
 | zero =>
  intro i r hi
  refine ev_off 1 ?_
  simp only [calamusref02_More.l0]
  rw [List.drop_of_length_le (by rw [bytes_len]; omega), ← I_FB, xor64]
  exact ev_neg (by omega) (Ev.now _)
 | succ d ih =>
  intro i r hi
  have hlt : i < (bytesOf s).length := by rw [bytes_len]; omega
  have hb := bytes_range s _ (List.getElem_mem hlt)
  have eb : wrap64 (bt s i) = I (BitVec.ofNat 32 ((bytesOf s)[i]).toNat) := by
   rw [bytes_get, Int.toNat_natCast, List.getD_eq_getElem?_getD, List.getElem?_eq_getElem hlt]
   show wrap64 ((bytesOf s)[i]) = _
   rw [wrap_id (by omega) (by omega)]
   exact byte_I _ hb
  refine ev_off 1 ?_
  simp only [calamusref02_More.l0, eb, xor64]
  rw [wrap_id (x := (i : Int) + 1) (by omega) (by omega), List.drop_eq_getElem_cons hlt]
  exact ev_pos (by omega) (ev_pos (by omega) (ev_bind (rstep_is _) (ih (i + 1) _ (by omega))))
theorem rsum_is (s : ByteArray) (hs : s.size ≤ 1000000) : Ev (fun k => calamusref02_Sum.f k s) (sumV s) := by
 unfold calamusref02_Sum.f calamusref02_More.f
 refine ev_bind (a := sumV s) ?_ (Ev.now _)
 refine ev_neg (by decide) (ev_off 1 ?_)
 simp only [calamusref02_More.j0]
 refine ev_neg (by decide) ?_
 have e : Go.bits .xor .i64 0 4294967295 = I FB := by
  have := xor64 0#32 FB
  rw [BitVec.zero_xor] at this
  exact this
 rw [e, sum_reg]
 exact rmore_l s hs s.size 0 FB (by omega)
theorem sumV_range (s : ByteArray) : 0 ≤ sumV s ∧ sumV s < 4294967296 := by rw [sum_reg]; exact I_range _
theorem rbytes_is (v : Int) (h : 0 ≤ v ∧ v < 4294967296) : calamusref02_Bytes.f v = some (cb v) := by
 unfold calamusref02_Bytes.f cb sumByte
 have t1 : Int.tdiv v 256 = v / 256 := Int.tdiv_eq_ediv_of_nonneg h.1
 have t2 : Int.tdiv v 65536 = v / 65536 := Int.tdiv_eq_ediv_of_nonneg h.1
 have t3 : Int.tdiv v 16777216 = v / 16777216 := Int.tdiv_eq_ediv_of_nonneg h.1
 rw [t1, t2, t3, wrap_id (by omega) (by omega), wrap_id (by omega) (by omega), wrap_id (by omega) (by omega), Int.tmod_eq_emod_of_nonneg h.1, Int.tmod_eq_emod_of_nonneg (by omega), Int.tmod_eq_emod_of_nonneg (by omega), Int.tmod_eq_emod_of_nonneg (by omega)]
 simp only [Int.emod_emod_of_dvd, Int.dvd_refl, Nat.mul_zero, Nat.mul_one, Int.pow_zero, Int.ediv_one, Nat.reduceMul, Int.reducePow]
theorem rseal_is (s : ByteArray) (hs : s.size ≤ 1000000) : Ev (fun k => calamusref02_Seal.f k s) (sealB s) := by
 unfold calamusref02_Seal.f
 refine ev_bind (rsum_is s hs) ?_
 rw [rbytes_is _ (sumV_range s)]
 simp only [Option.bind_some]
 have := cb_size (sumV s)
 exact ev_pos (by omega) (Ev.now _)
abbrev RT := Int × Int × Int × ByteArray × Int × Int
def E (c : Int) : RT := (0, 0, 0, ⟨#[]⟩, 0, c)
/-- What any bytes tell. -/
def inR (k a b : Int) (d : ByteArray) (n : Nat) : RT := if (a ≤ 2147483647 ∧ b ≤ 2147483647) ∧ RR k a b d then (k, a, b, d, (n : Int) + 8, 0) else E 3
def rdN (s : ByteArray) (n : Nat) : RT :=
 if s.size < n + 8 then E 2 else if sealB (s.extract 0 (n + 4)) = s.extract 0 (n + 8) then inR (bt s 4) (num4 (s.extract 5 9)) (num4 (s.extract 9 13)) (s.extract 13 (n + 4)) n else E 4
def rdR (s : ByteArray) : RT :=
 if s.size < 4 then E 2 else if num4 (s.extract 0 4) < 9 ∨ num4 (s.extract 0 4) > 73 then E 3 else rdN s (num4 (s.extract 0 4)).toNat
theorem rdR_ok (s : ByteArray) (h : (rdR s).2.2.2.2.2 = 0) : 17 ≤ (rdR s).2.2.2.2.1 ∧ (rdR s).2.2.2.2.1 ≤ s.size ∧ 0 ≤ (rdR s).2.2.1 ∧ (rdR s).2.2.1 ≤ 2147483647 := by
 unfold rdR rdN inR at *
 have hr := num4_range (s.extract 0 4)
 generalize num4 (s.extract 0 4) = n at *
 by_cases h1 : s.size < 4
 ·rw [if_pos h1] at h; exact absurd h (by decide)
 rw [if_neg h1] at h ⊢
 by_cases h2 : n < 9 ∨ n > 73
 ·rw [if_pos h2] at h; exact absurd h (by decide)
 rw [if_neg h2] at h ⊢
 by_cases h3 : s.size < n.toNat + 8
 ·rw [if_pos h3] at h; exact absurd h (by decide)
 rw [if_neg h3] at h ⊢
 by_cases h4 : sealB (s.extract 0 (n.toNat + 4)) = s.extract 0 (n.toNat + 8)
 ·rw [if_pos h4] at h ⊢
  by_cases h5 : (num4 (s.extract 5 9) ≤ 2147483647 ∧ num4 (s.extract 9 13) ≤ 2147483647) ∧ RR (bt s 4) (num4 (s.extract 5 9)) (num4 (s.extract 9 13)) (s.extract 13 (n.toNat + 4))
  ·rw [if_pos h5]
   have := h5.2.2.2.1
   simp only
   omega
  ·rw [if_neg h5] at h; exact absurd h (by decide)
 ·rw [if_neg h4] at h; exact absurd h (by decide)
theorem wb (s : ByteArray) (i : Int) : wrap64 (bt s i) = bt s i := by have := bt_range s i; exact wrap_id (by omega) (by omega)
theorem ext_cat (s : ByteArray) (a b c : Nat) (h : a ≤ b) (h' : b ≤ c) : s.extract a b ++ s.extract b c = s.extract a c := by
 apply bytes_inj
 rw [bytes_append, bytes_extract, bytes_extract, bytes_extract]
 have e : (bytesOf s).drop b = ((bytesOf s).drop a).drop (b - a) := by rw [List.drop_drop]; congr 1; omega
 rw [e, show c - a = (b - a) + (c - b) by omega, List.take_add]
theorem seal_iff (s : ByteArray) (n : Nat) : sealB (s.extract 0 (n + 4)) = s.extract 0 (n + 8) ↔ cb (sumV (s.extract 0 (n + 4))) = s.extract (n + 4) (n + 8) := by
 rw [← ext_cat s 0 (n + 4) (n + 8) (by omega) (by omega)]
 unfold sealB
 generalize cb _ = c
 constructor
 ·intro h
  have h' := congrArg bytesOf h
  rw [bytes_append, bytes_append] at h'
  exact bytes_inj (List.append_cancel_left h')
 ·intro h; rw [h]
theorem rright_is (k e s : Int) (d : ByteArray) : calamusref33_Right.f k e s d = some (decide (RR k e s d)) := by
 unfold calamusref33_Right.f
 by_cases h : RR k e s d
 ·have h1 : k ≥ 1 ∧ k ≤ 2 := by rcases h.1 with h | h <;> omega
  rw [decide_eq_true h, if_pos h1.1, if_pos h1.2, if_pos h.2.1.1, if_pos h.2.1.2, if_pos h.2.2.1.1, if_pos h.2.2.1.2, decide_eq_true (by have := h.2.2.2; omega)]
 ·rw [decide_eq_false h]
  repeat' split
  all_goals first | rfl | skip
  rw [decide_eq_false]
  intro hd
  exact h ⟨by omega, ⟨by omega, by omega⟩, ⟨by omega, by omega⟩, by omega⟩
theorem rj0 (s : ByteArray) (n : Nat) (h9 : 9 ≤ n ∧ n ≤ 73) : Ev (fun k => calamusref33_Read.j0 k s n false) (rdN s n) := by
 have w8 : wrap64 ((n : Int) + 8) = ((n + 8 : Nat) : Int) := by rw [wrap_id (by omega) (by omega)]; omega
 have w4' : wrap64 ((n : Int) + 4) = ((n + 4 : Nat) : Int) := by rw [wrap_id (by omega) (by omega)]; omega
 refine ev_off 1 ?_
 simp only [calamusref33_Read.j0, w8, w4', Int.toNat_natCast, wb]
 refine ev_neg (by simp) ?_
 unfold rdN
 by_cases h : s.size < n + 8
 ·rw [if_pos h]; exact ev_pos (by omega) (Ev.now _)
 rw [if_neg h]
 refine ev_neg (by omega) (ev_pos (by omega) (ev_pos (by omega) (ev_bind (rseal_is _ (by rw [ext_size]; omega)) (ev_pos (by omega) (ev_pos (by omega) ?_)))))
 by_cases hc : sealB (s.extract 0 (n + 4)) = s.extract 0 (n + 8)
 ·rw [if_pos hc]
  refine ev_pos (by rw [hc]) (ev_pos (by decide) (ev_pos (by omega) (ev_bnd (rrn_is _ _) (ev_bnd (rrn_is _ _) (ev_pos (by omega) (ev_pos (by omega) ?_))))))
  have hz : (s.extract 5 13).size = 8 := by rw [ext_size]; omega
  have q := rN_two (s.extract 5 13) (by omega)
  rw [show (s.extract 5 13).extract 0 4 = s.extract 5 9 from ext2 s 5 13 0 4 (by omega), show (s.extract 5 13).extract 4 8 = s.extract 9 13 from ext2 s 5 13 4 8 (by omega)] at q
  unfold inR
  rcases q with ⟨ha, hb, e1, e2, e3, _⟩ | ⟨hn, e3, _⟩
  ·rw [e1, e2, e3]
   refine evr ?_
   rw [rright_is]
   simp only [Option.bind_some]
   by_cases hr : RR (bt s 4) (num4 (s.extract 5 9)) (num4 (s.extract 9 13)) (s.extract 13 (n + 4))
   ·refine ev_pos (decide_eq_true hr) ?_
    rw [if_pos ⟨⟨ha, hb⟩, hr⟩]
    exact Ev.now _
   ·refine ev_neg (by simpa using hr) ?_
    rw [if_neg (fun h => hr h.2)]
    exact Ev.now _
  ·rw [e3]
   refine ev_neg (by decide) ?_
   rw [if_neg (fun h => hn h.1)]
   exact Ev.now _
 ·rw [if_neg hc]
  exact ev_neg (fun h => hc ((toList_inj _ _).1 h)) (Ev.now _)
theorem rread_is (s : ByteArray) : Ev (fun k => calamusref33_Read.f k s) (rdR s) := by
 unfold calamusref33_Read.f rdR
 by_cases h : s.size < 4
 ·rw [if_pos h]; exact ev_pos (by omega) (Ev.now _)
 rw [if_neg h]
 have hr := num4_range (s.extract 0 4)
 simp only [w4]
 refine ev_neg (by omega) (ev_pos (by omega) (ev_pos (by omega) (ev_pos (by omega) (ev_pos (by omega) ?_))))
 generalize hn : num4 (s.extract 0 4) = n at *
 obtain ⟨m, rfl⟩ := Int.eq_ofNat_of_zero_le hr.1
 have form : Ev (fun k => calamusref33_Read.j0 k s m true) (E 3) := by
  refine ev_off 1 ?_
  simp only [calamusref33_Read.j0]
  exact evr (Ev.now _)
 rw [Int.toNat_natCast]
 by_cases h1 : (m : Int) < 9
 ·rw [if_pos (.inl h1)]; exact ev_pos h1 form
 ·refine ev_neg h1 ?_
  by_cases h2 : (m : Int) > 73
  ·rw [if_pos (.inr h2), decide_eq_true h2]; exact form
  ·rw [if_neg (by omega), decide_eq_false h2]; exact rj0 s m (by omega)
theorem open_is (s : ByteArray) (n : Nat) (h9 : 9 ≤ n ∧ n ≤ 73) (h : n + 8 ≤ s.size) : Ev (fun k => crc_Open.f k (s.extract 0 (n + 8))) (if sealB (s.extract 0 (n + 4)) = s.extract 0 (n + 8) then (s.extract 0 (n + 4), 0) else (⟨#[]⟩, 4)) := by
 have hz : (s.extract 0 (n + 8)).size = n + 8 := by rw [ext_size]; omega
 have ew : wrap64 (((s.extract 0 (n + 8)).size : Int) - 4) = ((n + 4 : Nat) : Int) := by rw [hz, wrap_id (by omega) (by omega)]; omega
 have e1 : (s.extract 0 (n + 8)).extract 0 (n + 4) = s.extract 0 (n + 4) := by rw [ext2 s 0 (n + 8) 0 (n + 4) (by omega)]; congr 1 <;> omega
 have e2 : (s.extract 0 (n + 8)).extract (n + 4) (s.extract 0 (n + 8)).size = s.extract (n + 4) (n + 8) := by rw [hz, ext2 s 0 (n + 8) (n + 4) (n + 8) (by omega)]; congr 1 <;> omega
 have q := sum_is (s.extract 0 (n + 4)) (by rw [ext_size]; omega)
 have hi := seal_iff s n
 generalize hv : sumV (s.extract 0 (n + 4)) = v at q hi
 generalize sealB (s.extract 0 (n + 4)) = S at hi ⊢
 unfold crc_Open.f
 simp only [ew, Int.toNat_natCast, e1, e2]
 refine ev_neg (by omega) (ev_pos (by omega) (ev_pos (by omega) (ev_bind q ?_)))
 rw [show crc_bytes.f v = some (cb v) from rfl]
 simp only [Option.bind_some]
 by_cases hc : S = s.extract 0 (n + 8)
 ·rw [if_pos hc]; exact ev_pos ((toList_inj _ _).2 (hi.1 hc)) (Ev.now _)
 ·rw [if_neg hc]; exact ev_neg (fun h => hc (hi.2 ((toList_inj _ _).1 h))) (Ev.now _)
theorem within_any (s : ByteArray) (n : Nat) (h9 : 9 ≤ n ∧ n ≤ 73) (h : n + 8 ≤ s.size) : ∃ x, record_within.f (s.extract 4 (n + 4)) = some x ∧ (if x.2.2.2.2 = true then (x.1, x.2.1, x.2.2.1, x.2.2.2.1, (n : Int) + 8, 0) else E 3) = inR (bt s 4) (num4 (s.extract 5 9)) (num4 (s.extract 9 13)) (s.extract 13 (n + 4)) n := by
 have hz : (s.extract 4 (n + 4)).size = n := by rw [ext_size]; omega
 have e1 : (s.extract 4 (n + 4)).extract 1 (s.extract 4 (n + 4)).size = s.extract 5 (n + 4) := by rw [hz, ext2 s 4 (n + 4) 1 n (by omega)]; congr 1; omega
 have e0 : bt (s.extract 4 (n + 4)) 0 = bt s 4 := bt_ext s 4 (n + 4) 0 (by omega)
 have hz5 : (s.extract 5 (n + 4)).size = n - 1 := by rw [ext_size]; omega
 have q := rN_two (s.extract 5 (n + 4)) (by omega)
 have e13 : (s.extract 5 (n + 4)).extract 8 (n - 1) = s.extract 13 (n + 4) := by rw [ext2 s 5 (n + 4) 8 (n - 1) (by omega)]; congr 1; omega
 rw [show (s.extract 5 (n + 4)).extract 0 4 = s.extract 5 9 from ext2 s 5 (n + 4) 0 4 (by omega), show (s.extract 5 (n + 4)).extract 4 8 = s.extract 9 13 from ext2 s 5 (n + 4) 4 8 (by omega), hz5, e13] at q
 unfold record_within.f
 simp only [e1, e0, wb, code_NewReader.f, code_Reader_Left.f, code_Reader_Err.f, Option.bind_some, rN_is, right_is]
 rw [if_pos (show (0 : Int) < ((s.extract 4 (n + 4)).size : Int) by omega), if_pos (show (1 : Int) ≤ ((s.extract 4 (n + 4)).size : Int) by omega)]
 generalize rN (s.extract 5 (n + 4)) 0 = X at q ⊢
 generalize rN X.2.1 X.2.2 = Y at q ⊢
 unfold inR
 rcases q with ⟨ha, hb, q1, q2, q3, q4⟩ | ⟨hn, q3, q4⟩
 ·have hz13 : (s.extract 13 (n + 4)).size = n - 9 := by rw [ext_size]; omega
  have ew : wrap64 (((s.extract 4 (n + 4)).size : Int) - ((s.extract 13 (n + 4)).size : Int)) = ((9 : Nat) : Int) := by rw [hz, hz13, wrap_id (by omega) (by omega)]; omega
  have ed : (s.extract 4 (n + 4)).extract 9 (s.extract 4 (n + 4)).size = s.extract 13 (n + 4) := by rw [hz, ext2 s 4 (n + 4) 9 n (by omega), Nat.add_comm 4 n]
  rw [q4, ew, Int.toNat_natCast, ed, if_pos (show (0 : Int) ≤ ((9 : Nat) : Int) by decide), if_pos (show ((9 : Nat) : Int) ≤ ((s.extract 4 (n + 4)).size : Int) by omega), if_pos q3, q1, q2]
  refine ⟨_, rfl, ?_⟩
  simp only [decide_eq_true_eq]
  by_cases hr : RR (bt s 4) (num4 (s.extract 5 9)) (num4 (s.extract 9 13)) (s.extract 13 (n + 4))
  ·rw [if_pos hr, if_pos ⟨⟨ha, hb⟩, hr⟩]
  ·rw [if_neg hr, if_neg (fun h => hr h.2)]
 ·rw [q4]
  have ew : wrap64 (((s.extract 4 (n + 4)).size : Int) - (((⟨#[]⟩ : ByteArray).size : Nat) : Int)) = (n : Int) := by
   rw [hz]
   show wrap64 ((n : Int) - 0) = _
   rw [wrap_id (by omega) (by omega)]; omega
  have q3' : ¬ Y.2.2 = 0 := by rw [q3]; decide
  rw [ew, if_pos (show (0 : Int) ≤ (n : Int) by omega), if_pos (show (n : Int) ≤ ((s.extract 4 (n + 4)).size : Int) by omega), if_neg q3']
  refine ⟨_, rfl, ?_⟩
  exact (if_neg (show ¬ false = true by decide)).trans (if_neg (fun h => hn h.1)).symm
theorem read_is (s : ByteArray) : Ev (fun k => record_Read.f k s) (rdR s) := by
 unfold record_Read.f rdR
 by_cases h : s.size < 4
 ·rw [if_pos h]; exact ev_pos (by omega) (Ev.now _)
 rw [if_neg h]
 have hr := num4_range (s.extract 0 4)
 have e4 : Int.toNat 4 = 4 := rfl
 have hz : (s.extract 0 4).size = 4 := by rw [ext_size]; omega
 have e44 : (s.extract 0 4).extract 0 4 = s.extract 0 4 := by rw [ext2 s 0 4 0 4 (by omega)]
 have form : ∀ m : Int, Ev (fun k => record_Read.j0 k s m true) (E 3) := by
  intro m
  refine ev_off 1 ?_
  simp only [record_Read.j0]
  exact evr (Ev.now _)
 simp only [e4, code_NewReader.f, code_Reader_Err.f, Option.bind_some, rN_is]
 refine ev_neg (by omega) (ev_pos (by decide) (ev_pos (by omega) ?_))
 unfold rN
 simp only [if_true, e44, hz]
 generalize hn : num4 (s.extract 0 4) = n at *
 obtain ⟨m, rfl⟩ := Int.eq_ofNat_of_zero_le hr.1
 rw [Int.toNat_natCast, if_neg (by decide)]
 by_cases h0 : (m : Int) > 2147483647
 ·rw [if_pos h0, if_pos (.inr (by omega))]
  exact ev_neg (by decide) (form _)
 ·rw [if_neg h0]
  refine evr ?_
  by_cases h1 : (m : Int) < 9
  ·rw [if_pos (.inl h1)]; exact ev_pos h1 (form _)
  ·refine ev_neg h1 ?_
   by_cases h2 : (m : Int) > 73
   ·rw [if_pos (.inr h2), decide_eq_true h2]; exact form _
   ·rw [if_neg (by omega), decide_eq_false h2]
    have w8 : wrap64 ((m : Int) + 8) = ((m + 8 : Nat) : Int) := by rw [wrap_id (by omega) (by omega)]; omega
    refine ev_off 1 ?_
    simp only [record_Read.j0, w8, Int.toNat_natCast]
    refine ev_neg (by simp) ?_
    unfold rdN
    by_cases h3 : s.size < m + 8
    ·rw [if_pos h3]; exact ev_pos (by omega) (Ev.now _)
    rw [if_neg h3]
    refine ev_neg (by omega) (ev_pos (by omega) (ev_pos (by omega) (ev_bind (open_is s m (by omega) (by omega)) ?_)))
    by_cases hc : sealB (s.extract 0 (m + 4)) = s.extract 0 (m + 8)
    ·rw [if_pos hc, if_pos hc]
     have hz4 : (s.extract 0 (m + 4)).size = m + 4 := by rw [ext_size]; omega
     have e5 : (s.extract 0 (m + 4)).extract 4 (s.extract 0 (m + 4)).size = s.extract 4 (m + 4) := by rw [hz4, ext2 s 0 (m + 4) 4 (m + 4) (by omega)]; congr 1 <;> omega
     obtain ⟨x, hx, ex⟩ := within_any s m (by omega) (by omega)
     refine evr (ev_pos (by simp only; omega) ?_)
     simp only [e5]
     refine ev_bnd hx ?_
     rw [← ex]
     by_cases hq : x.2.2.2.2 = true
     ·refine ev_pos hq ?_
      rw [if_pos hq]
      exact Ev.now _
     ·refine ev_neg hq ?_
      rw [if_neg hq]
      exact Ev.now _
    ·rw [if_neg hc, if_neg hc]
     exact ev_neg (by decide) (Ev.now _)
end Go.Proofs.Ytealbonfaebikaa.RecordReadsRecord
