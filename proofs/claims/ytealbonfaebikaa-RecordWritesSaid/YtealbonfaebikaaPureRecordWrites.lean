/- RecordWrites: whether any record may be, its bytes, and what it is of, is what the document says. -/
import Derived.Test.YtealbonfaebikaaRecordWritesRecord
namespace Go.Proofs.Ytealbonfaebikaa.Pure
open Go.RowKit Go.Proofs.YtealbonfaebikaaW.PrintWords Go.Proofs.YtealbonfaebikaaW.PrintLast Go.Proofs.YtealbonfaebikaaW.PrintMore
open Go.Proofs.Ytealbonfaebikaa.PRecordWrites Go.Proofs.Ytealbonfaebikaa.Utf Go.Proofs.Ytealbonfaebikaa.Open Go.Proofs.Ytealbonfaebikaa.RecordWritesCode Go.Proofs.Ytealbonfaebikaa.RecordWritesRecord
set_option linter.unusedVariables false
set_option linter.unusedSimpArgs false
theorem rright_is (k e s : Int) (d : ByteArray) : calamusref33_Right.f k e s d = some (decide (RR k e s d)) := by
 unfold calamusref33_Right.f
 by_cases h1 : k ≥ 1
 ·rw [if_pos h1]
  by_cases h2 : k ≤ 2
  ·rw [if_pos h2]
   by_cases a : e ≥ 1
   ·rw [if_pos a]
    by_cases b : e ≤ 2147483647
    ·rw [if_pos b]
     by_cases c : s ≥ 0
     ·rw [if_pos c]
      by_cases f : s ≤ 2147483647
      ·rw [if_pos f]; congr 1; rw [decide_eq_decide]; unfold RR; constructor
       ·intro h; exact ⟨by omega, ⟨a, b⟩, ⟨c, f⟩, by omega⟩
       ·rintro ⟨_, _, _, h⟩; omega
      ·rw [if_neg f, decide_eq_false (fun h => f h.2.2.1.2)]
     ·rw [if_neg c, decide_eq_false (fun h => c h.2.2.1.1)]
    ·rw [if_neg b, decide_eq_false (fun h => b h.2.1.2)]
   ·rw [if_neg a, decide_eq_false (fun h => a h.2.1.1)]
  ·rw [if_neg h2, decide_eq_false (fun h => by have := h.1; omega)]
 ·rw [if_neg h1, decide_eq_false (fun h => by have := h.1; omega)]
theorem rbytes (k e s : Int) (d : ByteArray) : Ev (fun n => calamusref33_Bytes.f n k e s d) (if RR k e s d then recB k e s d else ⟨#[]⟩) := by
 unfold calamusref33_Bytes.f
 rw [rright_is]
 simp only [Option.bind_some, rnum_is]
 by_cases h : RR k e s d
 ·rw [if_pos h, decide_eq_true h]
  have hi := inn_size h
  have hd := h.2.2.2
  have hk : k % 256 = k := by rcases h.1 with h | h <;> omega
  have e1 : ((strOfNums [k % 256] ++ num e) ++ num s) ++ d = inn k e s d := by
   rw [inn_parts h, hk]; simp only [app_assoc]
  have h1 : (strOfNums [k % 256]).size = 1 := by rw [hk, ← bytes_len, one_byte k (by rcases h.1 with h | h <;> omega)]; rfl
  have n1 := num_le e
  have n2 := num_le s
  have n3 := num_le ((inn k e s d).size : Int)
  have z1 := size_app (strOfNums [k % 256]) (num e)
  have z2 := size_app (strOfNums [k % 256] ++ num e) (num s)
  have q := rseal_is (num (inn k e s d).size ++ inn k e s d) (by rw [size_app]; omega)
  rw [e1, show recB k e s d = sealB (num (inn k e s d).size ++ inn k e s d) from rfl]
  generalize inn k e s d = J at hi n3 q ⊢
  exact evr (ev_pos (by omega) (ev_pos (by omega) (ev_pos (by omega) (ev_pos (by omega) (ev_bind q (Ev.now _))))))
 ·rw [if_neg h, decide_eq_false h]
  exact ev_neg (by simp) (Ev.now _)
theorem pbytes (k e s : Int) (d : ByteArray) : Ev (fun n => record_Bytes.f n k e s d) (if RR k e s d then recB k e s d else ⟨#[]⟩) := by
 by_cases h : RR k e s d
 ·rw [if_pos h]; exact bytes_yes h
 ·rw [if_neg h]; exact bytes_no h
theorem num4_self (n : Int) (h : 0 ≤ n ∧ n ≤ 2147483647) : num4 (num n) = n := by
 have := num4_num n h ⟨#[]⟩
 have e : num n ++ (⟨#[]⟩ : ByteArray) = num n := bytes_inj (by rw [bytes_append]; exact List.append_nil _)
 rw [e, ext_all (num_size h).symm] at this
 exact this
theorem num_num4 (t : ByteArray) (ht : t.size = 4) (h : num4 t ≤ 2147483647) : num (num4 t) = t := by
 have h0 := bt_range t 0
 have h1 := bt_range t 1
 have h2 := bt_range t 2
 have h3 := bt_range t 3
 have hl : (bytesOf t).length = 4 := by rw [bytes_len, ht]
 have e : bytesOf t = [bt t 0, bt t 1, bt t 2, bt t 3] := by
  match hb : bytesOf t, hl with
  | [a, b, c, d], _ => simp only [bytes_get, hb]; rfl
 apply bytes_inj
 unfold num4 at h
 rw [bytes_num, e]
 unfold num4
 generalize bt t 0 = a at *
 generalize bt t 1 = b at *
 generalize bt t 2 = c at *
 generalize bt t 3 = d at *
 rw [enc_yes (by omega)]
 congr 1
 ·omega
 congr 1
 ·omega
 congr 1
 ·omega
 congr 1
 omega
section
variable {e s : Int} {d : ByteArray}
theorem told_no (hd : d.toList ≠ []) (hs : 1 ≤ d.size) (n : Nat) : ∀ i : Nat, i + n = 19 → (∀ j : Nat, i ≤ j → j ≤ 18 → d.extract 1 d.size ≠ num j) → Ev (fun k => calamusref33_Told.l0 k i 2 e s d) (0, 0, false) := by
 induction n with
 | zero =>
  intro i hi _
  refine ev_off 2 ?_
  simp only [calamusref33_Told.l0, calamusref33_Told.j2]
  exact ev_neg (by omega) (ev_neg (by simp) (Ev.now _))
 | succ n ih =>
  intro i hi h
  refine ev_off 2 ?_
  have hne : (d.toList != []) = true := by simpa using hd
  simp only [calamusref33_Told.l0, calamusref33_Told.j2, hne, rnum_is, Option.bind_some]
  rw [wrap_id (x := (i : Int) + 1) (by omega) (by omega)]
  exact ev_pos (by omega) (evr (evr (ev_pos (by omega) (ev_neg (fun g => h i (Nat.le_refl _) (by omega) ((toList_inj _ _).1 g)) (ih (i + 1) (by omega) (fun j hj => h j (by omega)))))))
theorem told_yes (hd : d.toList ≠ []) (hs : 1 ≤ d.size) (m : Nat) (hm : m ≤ 18) (he : d.extract 1 d.size = num m) (n : Nat) : ∀ i : Nat, i + n = m → Ev (fun k => calamusref33_Told.l0 k i 2 e s d) (bt d 0, (m : Int), true) := by
 have hne : (d.toList != []) = true := by simpa using hd
 induction n with
 | zero =>
  intro i hi
  refine ev_off 2 ?_
  simp only [calamusref33_Told.l0, calamusref33_Told.j2, hne, rnum_is, Option.bind_some, he]
  rw [show i = m from by omega]
  exact ev_pos (by omega) (evr (evr (ev_pos (by omega) (evr (ev_pos (by omega) (Ev.now _))))))
 | succ n ih =>
  intro i hi
  refine ev_off 2 ?_
  simp only [calamusref33_Told.l0, calamusref33_Told.j2, hne, rnum_is, Option.bind_some, he]
  rw [wrap_id (x := (i : Int) + 1) (by omega) (by omega)]
  refine ev_pos (by omega) (evr (evr (ev_pos (by omega) (ev_neg (fun g => ?_) (ih (i + 1) (by omega))))))
  have q := (toList_inj _ _).1 g
  have := congrArg num4 q
  rw [num4_self _ (by omega), num4_self _ (by omega)] at this
  omega
end
theorem told (k e s : Int) (d : ByteArray) : ∃ r, Ev (fun n => record_Told.f n k e s d) r ∧ Ev (fun n => calamusref33_Told.f n k e s d) r := by
 unfold record_Told.f calamusref33_Told.f
 rw [right_is, rright_is]
 simp only [Option.bind_some]
 by_cases h : RR k e s d
 ·rw [decide_eq_true h]
  have hd := h.2.2.2
  rcases h.1 with rfl | rfl
  ·by_cases h1 : (d.size : Int) = 1
   ·have b1 : ((d.size : Int) == 1) = true := by simpa using h1
    refine ⟨(bt d 0, 0, true), evr (evr (ev_off 1 ?_)), evr (evr (ev_off 1 ?_))⟩
    ·simp only [record_Told.j0, b1]; exact evr (ev_pos (by omega) (Ev.now _))
    ·simp only [calamusref33_Told.j0, b1]; exact evr (ev_pos (by omega) (Ev.now _))
   ·have b1 : ((d.size : Int) == 1) = false := by simpa using h1
    refine ⟨(0, 0, false), evr (evr (ev_off 2 ?_)), evr (evr (ev_off 3 ?_))⟩
    ·simp only [record_Told.j0, record_Told.j1, b1]; exact ev_neg (by simp) (ev_neg (by decide) (ev_neg (by simp) (Ev.now _)))
    ·simp only [calamusref33_Told.j0, calamusref33_Told.l0, calamusref33_Told.j2, b1]
     exact ev_neg (by simp) (ev_pos (by decide) (ev_neg (by decide) (ev_neg (by simp) (Ev.now _))))
  ·have r1 : ∀ r, Ev (fun n => calamusref33_Told.l0 n 0 2 e s d) r → Ev (fun n => if true = true then (if (2 : Int) = 1 then calamusref33_Told.j0 n ((d.size : Int) == 1) 2 e s d else calamusref33_Told.j0 n false 2 e s d) else some (0, 0, false)) r := fun r q => by
    refine evr (ev_neg (by decide) (ev_off 1 ?_))
    simp only [calamusref33_Told.j0]
    refine ev_neg (by simp) q
   have p1 : ∀ r, Ev (fun n => record_Told.j1 n ((d.size : Int) == 5) 2 e s d) r → Ev (fun n => if true = true then (if (2 : Int) = 1 then record_Told.j0 n ((d.size : Int) == 1) 2 e s d else record_Told.j0 n false 2 e s d) else some (0, 0, false)) r := fun r q => by
    refine evr (ev_neg (by decide) (ev_off 1 ?_))
    simp only [record_Told.j0]
    exact ev_neg (by simp) (evr q)
   by_cases h5 : d.size = 5
   ·have b5 : ((d.size : Int) == 5) = true := by rw [h5]; rfl
    have ht : (d.extract 1 d.size).size = 4 := by rw [ext_size]; omega
    have hne : d.toList ≠ [] := fun g => by
     rw [toList_nil] at g
     have := bytes_len d
     rw [g] at this; simp at this; omega
    have hr : 0 ≤ num4 (d.extract 1 d.size) := by
     unfold num4
     have := bt_range (d.extract 1 d.size) 0
     have := bt_range (d.extract 1 d.size) 1
     have := bt_range (d.extract 1 d.size) 2
     have := bt_range (d.extract 1 d.size) 3
     omega
    have eN : rN (d.extract 1 d.size) 0 = if num4 (d.extract 1 d.size) > 2147483647 then (0, ⟨#[]⟩, 6) else (num4 (d.extract 1 d.size), (d.extract 1 d.size).extract 4 (d.extract 1 d.size).size, 0) := by
     unfold rN
     rw [if_pos rfl, if_neg (by omega), ext_all (s := d.extract 1 d.size) (n := 4) ht.symm]
    generalize hT : d.extract 1 d.size = t at ht hr eN
    by_cases hb : num4 t > 2147483647
    ·rw [if_pos hb] at eN
     refine ⟨(0, 0, false), p1 _ (ev_off 1 ?_), r1 _ (told_no hne (by omega) 19 0 rfl (fun j _ hj g => ?_))⟩
     ·simp only [record_Told.j1, b5, code_NewReader.f, code_Reader_Err.f, hT, rN_is, eN, Option.bind_some]
      exact evr (ev_pos (by omega) (ev_neg (by decide) (Ev.now _)))
     ·rw [hT] at g
      rw [g, num4_self _ (by omega)] at hb
      omega
    ·rw [if_neg hb] at eN
     have hn := num_num4 t ht (by omega)
     by_cases h18 : num4 t ≤ 18
     ·refine ⟨(bt d 0, num4 t, true), p1 _ (ev_off 1 ?_), r1 _ ?_⟩
      ·simp only [record_Told.j1, b5, code_NewReader.f, code_Reader_Err.f, hT, rN_is, eN, Option.bind_some]
       exact evr (ev_pos (by omega) (evr (ev_pos h18 (ev_pos (by omega) (Ev.now _)))))
      ·obtain ⟨m, hm⟩ := Int.eq_ofNat_of_zero_le hr
       have := told_yes (e := e) (s := s) hne (by omega) m (by omega) (by rw [hT, ← hn, hm]) m 0 (by omega)
       rw [hm]
       exact this
     ·refine ⟨(0, 0, false), p1 _ (ev_off 1 ?_), r1 _ (told_no hne (by omega) 19 0 rfl (fun j _ hj g => ?_))⟩
      ·simp only [record_Told.j1, b5, code_NewReader.f, code_Reader_Err.f, hT, rN_is, eN, Option.bind_some]
       exact evr (ev_pos (by omega) (evr (ev_neg h18 (Ev.now _))))
      ·rw [hT] at g
       rw [g, num4_self _ (by omega)] at h18
       omega
   ·have b5 : ((d.size : Int) == 5) = false := by
     have : (d.size : Int) ≠ 5 := by omega
     simpa using this
    refine ⟨(0, 0, false), p1 _ (ev_off 1 ?_), r1 _ ?_⟩
    ·simp only [record_Told.j1, b5]; exact ev_neg (by simp) (Ev.now _)
    ·by_cases h0 : d.toList = []
     ·refine ev_off 2 ?_
      have b0 : (d.toList != []) = false := by simpa using h0
      simp only [calamusref33_Told.l0, calamusref33_Told.j2, b0]
      exact ev_pos (by decide) (evr (ev_neg (by simp) (Ev.now _)))
     ·have hs : 1 ≤ d.size := by
       rcases Nat.eq_zero_or_pos d.size with g | g
       ·exact absurd ((toList_nil d).2 (List.eq_nil_of_length_eq_zero (by rw [bytes_len, g]))) h0
       ·exact g
      refine told_no h0 hs 19 0 rfl (fun j _ hj g => ?_)
      have := congrArg ByteArray.size g
      rw [num_size (by omega), ext_size] at this
      omega
 ·rw [decide_eq_false h]
  exact ⟨(0, 0, false), ev_neg (by simp) (Ev.now _), ev_neg (by simp) (Ev.now _)⟩
theorem RecordWrites : calamuslaw33_RecordWrites.Pure := by
 intro k e s d hk he hs hd
 refine Ev.rounds (g := fun n => calamuslaw33_RecordWrites.f n k e s d) ?_
 unfold calamuslaw33_RecordWrites.f
 obtain ⟨r, q1, q2⟩ := told k e s d
 refine ev_bind q1 (ev_bind q2 ?_)
 rw [right_is, rright_is]
 simp only [Option.bind_some]
 exact evr (ev_bind (pbytes k e s d) (ev_bind (rbytes k e s d) (evr (evr (evr (evr (ev_bind lives_ (Ev.now _))))))))
end Go.Proofs.Ytealbonfaebikaa.Pure
