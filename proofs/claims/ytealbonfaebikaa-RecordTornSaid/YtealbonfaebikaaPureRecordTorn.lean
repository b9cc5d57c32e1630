/- RecordTorn: of any beginning of records' bytes those are told that are whole; with all of them, and something behind that goes on with none, all are. -/
import Derived.Test.YtealbonfaebikaaRecordTornRecord
namespace Go.Proofs.Ytealbonfaebikaa.Pure
open Go.RowKit Go.Proofs.YtealbonfaebikaaW.PrintWords Go.Proofs.YtealbonfaebikaaW.PrintLast Go.Proofs.YtealbonfaebikaaW.PrintMore
open Go.Proofs.Ytealbonfaebikaa.PRecordTorn Go.Proofs.Ytealbonfaebikaa.Utf Go.Proofs.Ytealbonfaebikaa.Open Go.Proofs.Ytealbonfaebikaa.RecordTornCode Go.Proofs.Ytealbonfaebikaa.RecordTornRecord
set_option linter.unusedVariables false
set_option linter.unusedSimpArgs false
def chn (e : Int) : Nat → List S26 → List S24
 | _, [] => []
 | n, r :: l => if RR r.f0 e n r.f3 then ⟨r.f0, e, n, r.f3⟩ :: chn e (n + 1) l else chn e n l
theorem chn_chain (e : Int) : ∀ (l : List S26) (n : Nat), Chain e n (chn e n l)
 | [], n => trivial
 | r :: l, n => by
  rw [chn]
  by_cases h : RR r.f0 e n r.f3
  ·rw [if_pos h]; exact ⟨⟨h, rfl, rfl⟩, chn_chain e l (n + 1)⟩
  ·rw [if_neg h]; exact chn_chain e l n
theorem chn_len (e : Int) : ∀ (l : List S26) (n : Nat), (chn e n l).length ≤ l.length
 | [], n => by simp [chn]
 | r :: l, n => by
  rw [chn]
  by_cases h : RR r.f0 e n r.f3
  ·rw [if_pos h]; have := chn_len e l (n + 1); simp; omega
  ·rw [if_neg h]; have := chn_len e l n; simp; omega
theorem rd26 {l : List S26} {i : Nat} (h : i < l.length) : rd_T26 l (i : Int) = l[i] := by
 unfold rd_T26
 rw [Int.toNat_natCast, List.getD_eq_getElem?_getD, List.getElem?_eq_getElem h]; rfl
theorem rd24 {l : List S24} {i : Nat} (h : i < l.length) : rd_T24 l (i : Int) = l[i] := by
 unfold rd_T24
 rw [Int.toNat_natCast, List.getD_eq_getElem?_getD, List.getElem?_eq_getElem h]; rfl
theorem chain_l (l : List S26) (e : Int) (hl : l.length ≤ 60) (d : Nat) : ∀ (i : Nat) (acc : List S24) (b : ByteArray), i + d = l.length → acc.length ≤ i → b.size ≤ 81 * i →
  Ev (fun k => calamuslaw33_chain.l0 k l e acc b i) (acc ++ chn e acc.length (l.drop i), b ++ recsB (chn e acc.length (l.drop i))) := by
 induction d with
 | zero =>
  intro i acc b hi ha hb
  refine ev_off 1 ?_
  simp only [calamuslaw33_chain.l0]
  rw [List.drop_of_length_le (by omega)]
  have e1 : b ++ recsB [] = b := bytes_inj (by rw [bytes_append]; show bytesOf b ++ bytesOf ⟨#[]⟩ = _; rw [bytes_empty]; simp)
  simp only [chn, List.append_nil, e1]
  exact ev_neg (by omega) (Ev.now _)
 | succ d ih =>
  intro i acc b hi ha hb
  have hlt : i < l.length := by omega
  refine ev_off 1 ?_
  simp only [calamuslaw33_chain.l0, rd26 hlt, right_is, Option.bind_some]
  rw [List.drop_eq_getElem_cons hlt, chn, wrap_id (x := (i : Int) + 1) (by omega) (by omega)]
  refine ev_pos (by omega) (ev_pos (by omega) ?_)
  by_cases h : RR l[i].f0 e acc.length l[i].f3
  ·rw [if_pos h, decide_eq_true h]
   have hz := rec_size h
   have hd := h.2.2.2
   have q := ih (i + 1) (acc ++ [⟨l[i].f0, e, acc.length, l[i].f3⟩]) (b ++ recB l[i].f0 e acc.length l[i].f3) (by omega) (by simp; omega) (by rw [size_app]; omega)
   have e1 : acc ++ (⟨l[i].f0, e, acc.length, l[i].f3⟩ : S24) :: chn e (acc.length + 1) (l.drop (i + 1)) = acc ++ [⟨l[i].f0, e, acc.length, l[i].f3⟩] ++ chn e (acc.length + 1) (l.drop (i + 1)) := by simp
   have e2 : b ++ recsB ((⟨l[i].f0, e, acc.length, l[i].f3⟩ : S24) :: chn e (acc.length + 1) (l.drop (i + 1))) = b ++ recB l[i].f0 e acc.length l[i].f3 ++ recsB (chn e (acc.length + 1) (l.drop (i + 1))) := by
    rw [recsB, app_assoc]; rfl
   have e3 : (acc ++ [(⟨l[i].f0, e, acc.length, l[i].f3⟩ : S24)]).length = acc.length + 1 := by simp
   rw [e3] at q
   rw [e1, e2]
   exact evr (ev_pos (by omega) (ev_bind (bytes_yes h) (ev_pos (by omega) q)))
  ·rw [if_neg h, decide_eq_false h]
   exact ev_neg (by simp) (ih (i + 1) acc b (by omega) (by omega) (by omega))
theorem chain_is (l : List S26) (e : Int) (hl : l.length ≤ 60) : Ev (fun k => calamuslaw33_chain.f k l e) (chn e 0 l, recsB (chn e 0 l)) := by
 have q := chain_l l e hl l.length 0 [] ⟨#[]⟩ (by omega) (by simp) (by show (0 : Nat) ≤ _; omega)
 rw [app_nil] at q
 exact q
theorem same_l (L : List S24) (hL : L.length ≤ 1000000) (d : Nat) : ∀ i : Nat, i + d = L.length → Ev (fun k => calamuslaw33_same.l0 k L L i) true := by
 induction d with
 | zero =>
  intro i hi
  refine ev_off 1 ?_
  simp only [calamuslaw33_same.l0]
  exact ev_neg (by omega) (Ev.now _)
 | succ d ih =>
  intro i hi
  refine ev_off 1 ?_
  simp only [calamuslaw33_same.l0]
  rw [wrap_id (x := (i : Int) + 1) (by omega) (by omega)]
  exact ev_pos (by omega) (ev_pos (by omega) (ev_pos (by omega) (ev_neg (by simp) (ih (i + 1) (by omega)))))
theorem same_is (L : List S24) (hL : L.length ≤ 1000000) : Ev (fun k => calamuslaw33_same.f k L L) true := by
 unfold calamuslaw33_same.f
 exact evr (same_l L hL L.length 0 (by omega))
section
variable {l : List S26} {e : Int} (hl : l.length ≤ 60)
include hl
theorem j4_is (L : List S24) (hL : L = chn e 0 l) (he : -9223372036854775808 ≤ e ∧ e ≤ 9223372036854775807) : Ev (fun k => calamuslaw33_RecordTorn.j4 k l e L (recsB L) false) true := by
 have hc : Chain e 0 L := hL ▸ chn_chain e l 0
 have hll : L.length ≤ 60 := by rw [hL]; have := chn_len e l 0; omega
 have hz := recs_size L e 0 hc
 have t1 := Int.mul_tdiv_add_tmod e 5
 have t2 := Int.tmod_lt_of_pos e (show (0 : Int) < 5 by decide)
 have t3 := Int.lt_tmod_of_pos e (show (0 : Int) < 5 by decide)
 have ew : wrap64 (Int.tmod e 5 + 1) = Int.tmod e 5 + 1 := wrap_id (by omega) (by omega)
 have hne : Int.tmod e 5 + 1 ≠ e := by omega
 refine ev_off 1 ?_
 simp only [calamuslaw33_RecordTorn.j4, ew]
 generalize Int.tmod e 5 + 1 = e' at hne
 have hc2 := chn_chain e' l 0
 have hl2 := chn_len e' l 0
 have hz2 := recs_size _ e' 0 hc2
 refine ev_neg (by simp) (ev_bind (chain_is l e' hl) (ev_pos (by show (recsB L).size + (recsB (chn e' 0 l)).size ≤ _; omega) ?_))
 have hS : (recsB L ++ recsB (chn e' 0 l)).size ≤ 1000000000000000 := by rw [size_app]; omega
 obtain ⟨n, q⟩ := scan_more (recsB L ++ recsB (chn e' 0 l)) e hS (recsB (chn e' 0 l)) (fun acc pos hp hr => by
  cases hx : chn e' 0 l with
  | nil =>
   rw [hx] at hr hp
   exact scan_stop _ e acc pos hp _ hr read_none
  | cons x t =>
   rw [hx] at hr hc2 hz2
   have hy := read_yes hc2.1.1 (recsB t) (by rw [recsB, size_app] at hz2; have := chn_len e' l 0; rw [hx] at this; simp at this hz2; omega)
   have hr' : (recsB L ++ recsB (x :: t)).extract pos (recsB L ++ recsB (x :: t)).size = recB x.f0 x.f1 x.f2 x.f3 ++ recsB t := hr
   refine ev_off 1 ?_
   simp only [record_Scan.l0, Int.toNat_natCast, hr']
   rw [hx] at hp
   exact ev_pos (by omega) (ev_pos (by omega) (ev_bind hy (evr (ev_neg (by simp only [hc2.1.2.1]; exact hne) (Ev.now _))))))
  L [] 0 hc (by omega) (by
   apply bytes_inj
   rw [bytes_drop]; rfl) (by simp; omega)
 refine ev_bind (a := ([] ++ L, n)) q (ev_neg hne ?_)
 rw [List.nil_append]
 exact ev_bind (same_is L (by omega)) (evr (ev_bind lives_ (Ev.now _)))
theorem sum_l (L : List S24) (hL : L = chn e 0 l) (he : -9223372036854775808 ≤ e ∧ e ≤ 9223372036854775807) (c : Nat) (hc : c ≤ (recsB L).size) (d : Nat) : ∀ i : Nat, i + d = (tk L c).1.length →
  Ev (fun k => calamuslaw33_RecordTorn.l0 k l e c L (recsB L) (tk L c).1 ((tk L c).2 : Int) (((((tk L c).1.take i).map rz).sum : Nat) : Int) i) true := by
 have hch : Chain e 0 L := hL ▸ chn_chain e l 0
 have hll : L.length ≤ 60 := by rw [hL]; have := chn_len e l 0; omega
 have hz := recs_size L e 0 hch
 have ht := tk_le L c
 have hs := tk_sum L c
 have hall := tk_all L e 0 hch c
 have hnx := tk_next L c
 generalize tk L c = T at ht hs hall hnx
 obtain ⟨G, n⟩ := T
 simp only at ht hs hall hnx ⊢
 induction d with
 | zero =>
  intro i hi
  refine ev_off 1 ?_
  simp only [calamuslaw33_RecordTorn.l0]
  refine ev_neg (by omega) ?_
  rw [List.take_of_length_le (by omega), hs]
  refine evr ?_
  by_cases g : G.length < L.length
  ·have hR : RR (L[G.length]).f0 (L[G.length]).f1 (L[G.length]).f2 (L[G.length]).f3 := by
    have : ∀ (M : List S24) (k : Nat), Chain e k M → ∀ x ∈ M, RR x.f0 x.f1 x.f2 x.f3 := by
     intro M
     induction M with
     | nil => intro k _ x hx; simp at hx
     | cons y M ihM => intro k h x hx; rcases List.mem_cons.1 hx with rfl | hx; exact h.1.1; exact ihM (k + 1) h.2 x hx
    exact this L 0 hch _ (List.getElem_mem g)
   have hzz := rb_size hR
   have := hnx g
   refine ev_pos (by omega) (ev_pos (by omega) ?_)
   rw [rd24 g]
   refine ev_bind (bytes_yes hR) ?_
   have hd := hR.2.2.2
   have e1 : ((recB (L[G.length]).f0 (L[G.length]).f1 (L[G.length]).f2 (L[G.length]).f3).size : Int) = (rz L[G.length] : Int) := by rw [← hzz]; rfl
   rw [e1, wrap_id (by omega) (by unfold rz; omega), decide_eq_false (by omega)]
   exact j4_is hl L hL he
  ·exact ev_neg (by omega) (j4_is hl L hL he)
 | succ d ih =>
  intro i hi
  have hlt : i < G.length := by omega
  have hR := hall _ (List.getElem_mem hlt)
  have hzz := rb_size hR
  have hd := hR.2.2.2
  refine ev_off 1 ?_
  simp only [calamuslaw33_RecordTorn.l0, rd24 hlt]
  refine ev_pos (by omega) (ev_pos (by omega) (ev_bind (bytes_yes hR) ?_))
  have q := ih (i + 1) (by omega)
  have e1 : ((recB (G[i]).f0 (G[i]).f1 (G[i]).f2 (G[i]).f3).size : Int) = (rz G[i] : Int) := by rw [← hzz]; rfl
  have e2 : ((G.take (i + 1)).map rz).sum = ((G.take i).map rz).sum + rz G[i] := by
   rw [List.take_succ_eq_append_getElem hlt, List.map_append, List.sum_append]; simp
  have e3 : ((G.take (i + 1)).map rz).sum ≤ n := by
   rw [← hs]
   conv => rhs; rw [← List.take_append_drop (i + 1) G, List.map_append, List.sum_append]
   omega
  rw [e1, wrap_id (x := (i : Int) + 1) (by omega) (by omega), wrap_id (by omega) (by omega)]
  rw [e2] at q
  exact q
theorem j1_is (L : List S24) (hL : L = chn e 0 l) (he : -9223372036854775808 ≤ e ∧ e ≤ 9223372036854775807) (c : Nat) (hc : c ≤ (recsB L).size) : Ev (fun k => calamuslaw33_RecordTorn.j1 k l e c L (recsB L)) true := by
 have hch : Chain e 0 L := hL ▸ chn_chain e l 0
 have hll : L.length ≤ 60 := by rw [hL]; have := chn_len e l 0; omega
 have hz := recs_size L e 0 hch
 have ht := tk_le L c
 refine ev_off 1 ?_
 simp only [calamuslaw33_RecordTorn.j1, Int.toNat_natCast]
 have q := scan_torn ((recsB L).extract 0 c) e (by rw [size_ext _ _ hc]; omega) L [] 0 c hch (by omega) hc (by apply bytes_inj; rw [bytes_drop]; rfl) (by simp; omega)
 rw [List.nil_append, Nat.zero_add] at q
 refine ev_pos (by omega) (ev_pos (by omega) (ev_bind (a := ((tk L c).1, ((tk L c).2 : Int))) q ?_))
 refine ev_neg (by show ¬ (((tk L c).2 : Nat) : Int) > (c : Int); omega) (ev_neg (by show ¬ (((tk L c).1.length : Nat) : Int) > (L.length : Int); omega) (ev_pos (by show (0 : Int) ≤ (((tk L c).1.length : Nat) : Int); omega) (ev_pos (by show (((tk L c).1.length : Nat) : Int) ≤ (L.length : Int); omega) ?_)))
 simp only [Int.toNat_natCast]
 rw [← ht.2.1]
 refine ev_bind (same_is _ (by omega)) (ev_off 1 ?_)
 simp only [calamuslaw33_RecordTorn.j2]
 refine ev_neg (by simp) ?_
 exact sum_l hl L hL he c hc (tk L c).1.length 0 (by omega)
end
theorem RecordTorn : calamuslaw33_RecordTorn.Pure := by
 intro l e c hl he hc
 refine Ev.rounds (g := fun k => calamuslaw33_RecordTorn.f k l e c) ?_
 have he' := ci64 he
 have hl1 := hl.1
 unfold calamuslaw33_RecordTorn.f
 by_cases h : (l.length : Int) > 60
 ·exact ev_pos h (ev_bind lives_ (Ev.now _))
 ·refine ev_neg h (ev_bind (chain_is l e (by omega)) ?_)
  have hz := recs_size _ e 0 (chn_chain e l 0)
  have hll := chn_len e l 0
  have full : Ev (fun k => calamuslaw33_RecordTorn.j0 k l e c (chn e 0 l) (recsB (chn e 0 l)) true) true := by
   refine ev_off 1 ?_
   simp only [calamuslaw33_RecordTorn.j0]
   exact evr (j1_is (by omega) _ rfl he' _ (Nat.le_refl _))
  by_cases h0 : c < 0
  ·exact ev_pos h0 full
  ·refine ev_neg h0 ?_
   by_cases h1 : c > ((recsB (chn e 0 l)).size : Int)
   ·simp only [decide_eq_true h1]; exact full
   ·simp only [decide_eq_false h1]
    obtain ⟨m, rfl⟩ := Int.eq_ofNat_of_zero_le (show 0 ≤ c by omega)
    refine ev_off 1 ?_
    simp only [calamuslaw33_RecordTorn.j0]
    exact ev_neg (by simp) (j1_is (by omega) _ rfl he' m (by omega))
end Go.Proofs.Ytealbonfaebikaa.Pure
