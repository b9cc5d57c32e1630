/- RecordReads: which record any bytes begin with, and which records they are, one behind the other. -/
import Derived.Test.YtealbonfaebikaaRecordReadsRecord
namespace Go.Proofs.Ytealbonfaebikaa.Pure
open Go.RowKit Go.Proofs.YtealbonfaebikaaW.PrintWords Go.Proofs.YtealbonfaebikaaW.PrintLast Go.Proofs.YtealbonfaebikaaW.PrintMore
open Go.Proofs.Ytealbonfaebikaa.PRecordReads Go.Proofs.Ytealbonfaebikaa.Utf Go.Proofs.Ytealbonfaebikaa.Open Go.Proofs.Ytealbonfaebikaa.RecordReadsCode Go.Proofs.Ytealbonfaebikaa.RecordReadsRecord
set_option linter.unusedVariables false
set_option linter.unusedSimpArgs false
def conv (x : S26) : S24 := ⟨x.f0, x.f1, x.f2, x.f3⟩
theorem rd26 {l : List S26} {i : Nat} (h : i < l.length) : rd_T26 l (i : Int) = l[i] := by
 unfold rd_T26
 rw [Int.toNat_natCast, List.getD_eq_getElem?_getD, List.getElem?_eq_getElem h]; rfl
theorem scan_both (S : ByteArray) (e : Int) (hS : S.size ≤ 140737488351232) (d : Nat) : ∀ (pos : Nat) (acc : List S26), S.size ≤ pos + d → pos ≤ S.size → acc.length ≤ 2147483648 →
  ∃ (L : List S26) (p : Int), L.length ≤ 2147483648 ∧ Ev (fun k => record_Scan.l0 k S e (acc.map conv) pos) (L.map conv, p) ∧
   Ev (fun k => calamusref33_Scan.l0 k (S.extract pos S.size) e acc pos (rdR (S.extract pos S.size)).2.2.2.2.1 (rdR (S.extract pos S.size)).2.2.2.2.2 (rdR (S.extract pos S.size)).1 (rdR (S.extract pos S.size)).2.1 (rdR (S.extract pos S.size)).2.2.1 (rdR (S.extract pos S.size)).2.2.2.1) (L, p) := by
 induction d with
 | zero =>
  intro pos acc hd hp ha
  have hz : (S.extract pos S.size).size = 0 := by rw [ext_size]; omega
  have hk := rdR_ok (S.extract pos S.size)
  have hne : (rdR (S.extract pos S.size)).2.2.2.2.2 ≠ 0 := by intro h; have := hk h; omega
  have hr := read_is (S.extract pos S.size)
  generalize rdR (S.extract pos S.size) = R at hne hr ⊢
  refine ⟨acc, pos, ha, ?_, ?_⟩
  ·refine ev_off 1 ?_
   simp only [record_Scan.l0, Int.toNat_natCast]
   exact ev_pos (by omega) (ev_pos (by omega) (ev_bind hr (ev_neg hne (Ev.now _))))
  ·refine ev_off 1 ?_
   simp only [calamusref33_Scan.l0]
   exact ev_neg hne (Ev.now _)
 | succ d ih =>
  intro pos acc hd hp ha
  have hz : (S.extract pos S.size).size = S.size - pos := by rw [ext_size]; omega
  have hk := rdR_ok (S.extract pos S.size)
  have hr := read_is (S.extract pos S.size)
  have hx : ∀ m : Nat, m ≤ S.size - pos → (S.extract pos S.size).extract m (S.extract pos S.size).size = S.extract (pos + m) S.size := by
   intro m hm
   rw [hz, ext2 S pos S.size m (S.size - pos) (by omega)]
   congr 1; omega
  generalize hU0 : S.extract pos S.size = U at hz hk hr hx ⊢
  have hlen : ((acc.map conv).length : Int) = (acc.length : Int) := by rw [List.length_map]
  have stop : ¬ ((rdR U).2.2.2.2.2 = 0 ∧ (rdR U).2.1 = e ∧ (rdR U).2.2.1 = (acc.length : Int)) → ∃ (L : List S26) (p : Int), L.length ≤ 2147483648 ∧ Ev (fun k => (record_Read.f k U).bind fun bt204 => (if bt204.2.2.2.2.2 = 0 then (if bt204.2.1 = e then (if bt204.2.2.1 = ((acc.map conv).length : Int) then (if (acc.map conv).length < 3518437208883 then (record_Scan.l0 k S e ((acc.map conv) ++ [(⟨bt204.1, bt204.2.1, bt204.2.2.1, bt204.2.2.2.1⟩ : S24)]) (wrap64 ((pos : Int) + bt204.2.2.2.2.1))) else (none)) else (some (acc.map conv, (pos : Int)))) else (some (acc.map conv, (pos : Int)))) else (some (acc.map conv, (pos : Int))))) (L.map conv, p) ∧
    Ev (fun k => calamusref33_Scan.l0 k U e acc pos (rdR U).2.2.2.2.1 (rdR U).2.2.2.2.2 (rdR U).1 (rdR U).2.1 (rdR U).2.2.1 (rdR U).2.2.2.1) (L, p) := by
   intro hn
   generalize rdR U = R at hn hr ⊢
   refine ⟨acc, pos, ha, ev_bind hr ?_, ev_off 1 ?_⟩
   ·by_cases h1 : R.2.2.2.2.2 = 0
    ·refine ev_pos h1 ?_
     by_cases h2 : R.2.1 = e
     ·refine ev_pos h2 (ev_neg ?_ (Ev.now _))
      rw [hlen]
      exact fun h3 => hn ⟨h1, h2, h3⟩
     ·exact ev_neg h2 (Ev.now _)
    ·exact ev_neg h1 (Ev.now _)
   ·simp only [calamusref33_Scan.l0]
    by_cases h1 : R.2.2.2.2.2 = 0
    ·refine ev_pos h1 ?_
     by_cases h2 : R.2.1 = e
     ·exact ev_pos h2 (ev_neg (fun h3 => hn ⟨h1, h2, h3⟩) (Ev.now _))
     ·exact ev_neg h2 (Ev.now _)
    ·exact ev_neg h1 (Ev.now _)
  by_cases hg : (rdR U).2.2.2.2.2 = 0 ∧ (rdR U).2.1 = e ∧ (rdR U).2.2.1 = (acc.length : Int)
  ·obtain ⟨h1, h2, h3⟩ := hg
   obtain ⟨k1, k2, k3, k4⟩ := hk h1
   clear stop hk
   generalize rdR U = R at h1 h2 h3 k1 k2 k3 k4 hr ⊢
   obtain ⟨n, hn⟩ := Int.eq_ofNat_of_zero_le (show 0 ≤ R.2.2.2.2.1 by omega)
   have q := ih (pos + n) (acc ++ [⟨R.1, R.2.1, R.2.2.1, R.2.2.2.1⟩]) (by omega) (by omega) (by rw [List.length_append]; simp; omega)
   have hw : wrap64 ((pos : Int) + R.2.2.2.2.1) = ((pos + n : Nat) : Int) := by rw [hn, wrap_id (by omega) (by omega)]; omega
   have hU := hx n (by omega)
   obtain ⟨L, p, hL, q1, q2⟩ := q
   refine ⟨L, p, hL, ?_, ?_⟩
   ·refine ev_off 1 ?_
    simp only [record_Scan.l0, Int.toNat_natCast, hU0]
    refine ev_pos (by omega) (ev_pos (by omega) (ev_bind hr (ev_pos h1 (ev_pos h2 (ev_pos (by rw [hlen]; exact h3) (ev_pos (by rw [List.length_map]; omega) ?_))))))
    rw [hw]
    rw [List.map_append] at q1
    exact q1
   ·refine ev_off 1 ?_
    simp only [calamusref33_Scan.l0, hn, Int.toNat_natCast, hU]
    rw [hn] at hw
    rw [hw]
    refine ev_pos h1 (ev_pos h2 (ev_pos h3 (ev_pos (by omega) (ev_pos (by omega) (ev_pos (by omega) (ev_bind (rread_is _) q2))))))
  ·obtain ⟨L, p, hL, q1, q2⟩ := stop hg
   refine ⟨L, p, hL, ev_off 1 ?_, q2⟩
   simp only [record_Scan.l0, Int.toNat_natCast, hU0]
   exact ev_pos (by omega) (ev_pos (by omega) q1)
theorem same_l (L : List S24) (hL : L.length ≤ 2147483648) (d : Nat) : ∀ i : Nat, i + d = L.length → Ev (fun k => calamuslaw33_same.l0 k L L i) true := by
 induction d with
 | zero =>
  intro i hi
  refine ev_off 1 ?_
  simp only [calamuslaw33_same.l0]
  exact ev_neg (by omega) (Ev.now _)
 | succ d ih =>
  intro i hi
  refine ev_off 1 ?_
  simp only [calamuslaw33_same.l0]
  rw [wrap_id (x := (i : Int) + 1) (by omega) (by omega)]
  exact ev_pos (by omega) (ev_pos (by omega) (ev_pos (by omega) (ev_neg (by simp) (ih (i + 1) (by omega)))))
theorem same_is (L : List S24) (hL : L.length ≤ 2147483648) : Ev (fun k => calamuslaw33_same.f k L L) true := by
 unfold calamuslaw33_same.f
 exact evr (same_l L hL L.length 0 (by omega))
theorem records_l (l : List S26) (hl : l.length ≤ 2147483648) (d : Nat) : ∀ i : Nat, i + d = l.length → Ev (fun k => calamuslaw33_records.l0 k l ((l.take i).map conv) i) (l.map conv) := by
 induction d with
 | zero =>
  intro i hi
  refine ev_off 1 ?_
  simp only [calamuslaw33_records.l0]
  rw [List.take_of_length_le (by omega)]
  exact ev_neg (by omega) (Ev.now _)
 | succ d ih =>
  intro i hi
  have hlt : i < l.length := by omega
  refine ev_off 1 ?_
  simp only [calamuslaw33_records.l0, rd26 hlt]
  have q := ih (i + 1) (by omega)
  rw [List.take_succ_eq_append_getElem hlt, List.map_append] at q
  refine ev_pos (by omega) (ev_pos (by omega) (ev_pos (by rw [List.length_map, List.length_take]; omega) ?_))
  rw [wrap_id (x := (i : Int) + 1) (by omega) (by omega)]
  exact q
theorem RecordReads : calamuslaw33_RecordReads.Pure := by
 intro S e hS he
 refine Ev.rounds (g := fun k => calamuslaw33_RecordReads.f k S e) ?_
 obtain ⟨L, p, hL, q1, q2⟩ := scan_both S e hS S.size 0 [] (by omega) (by omega) (by simp)
 have e0 : S.extract 0 S.size = S := ext_all rfl
 rw [e0] at q2
 have q1' : Ev (fun k => record_Scan.f k S e) (L.map conv, p) := q1
 have q2' : Ev (fun k => calamusref33_Scan.f k S e) (L, p) := by
  unfold calamusref33_Scan.f
  exact ev_bind (rread_is S) q2
 unfold calamuslaw33_RecordReads.f
 refine ev_bind (read_is S) (ev_bind (rread_is S) (ev_bind q1' (ev_bind q2' (ev_pos (by simp) (evr (evr ?_))))))
 have q3 : Ev (fun k => calamuslaw33_records.f k L) (L.map conv) := records_l L (by omega) L.length 0 (by omega)
 exact ev_bind q3 (ev_bind (same_is _ (by rw [List.length_map]; exact hL)) (evr (evr (ev_bind lives_ (Ev.now _)))))
end Go.Proofs.Ytealbonfaebikaa.Pure
