/- The texts at a tree's nodes: what the program's and the document's functions tell, over plain lists. In pieces. -/
import Derived.Test.YtkiokimpblimcaaTreeTextsTree
namespace Go.Proofs.Ytkiokimpblimcaa.TreeTextsTexts
open Go.RowKit Go.Proofs.YtkiokimpblimcaaW.PrintWords Go.Proofs.YtkiokimpblimcaaW.PrintLast Go.Proofs.YtkiokimpblimcaaW.PrintMore
open Go.Proofs.Ytkiokimpblimcaa.PTreeTexts Go.Proofs.Ytkiokimpblimcaa.Utf Go.Proofs.Ytkiokimpblimcaa.TreeTextsUtf Go.Proofs.Ytkiokimpblimcaa.TreeTextsChange Go.Proofs.Ytkiokimpblimcaa.Open
open Go.Proofs.Ytkiokimpblimcaa.TreeTextsTree hiding wrap_id ev_const ev_off ev_bind ev_pos ev_neg lives_
set_option linter.unusedVariables false
set_option linter.unusedSimpArgs false

theorem one_both (t : ByteArray) (c : S24) (ht : t.size ≤ 9000) (c1 : c.f1.size ≤ 9000) (c2 : c.f2.size ≤ 9000) (c3 : bInt .i64 c.f0) :
  ∃ (s : ByteArray) (e : Int), s.size ≤ 4096 ∧ Ev (fun k => change_Do.f k t [c]) (s, e) ∧ Ev (fun k => calamusref08_Do.f k t [c]) (s, e) := by
 obtain ⟨b, f1, f2, f3⟩ := fits_both t c ht c1 c2 c3
 have hr := i64_range c3
 have rd0 : rd_T24 [c] 0 = c := rfl
 have e1 : wrap64 ((0 : Int) + 1) = 1 := by rw [wrap_id (by omega) (by omega)]; rfl
 unfold change_Do.f calamusref08_Do.f
 have tail1 : ∀ s : ByteArray, Ev (fun k => change_Do.l0 k s [c] ([c].length : Int) 1) (s, 0) := fun s => by
  refine ev_off 1 ?_
  simp only [change_Do.l0]
  exact ns_ (Ev.now _)
 have tail2 : ∀ s : ByteArray, Ev (fun k => calamusref08_Do.l0 k s [c] 1) (s, 0) := fun s => by
  refine ev_off 1 ?_
  simp only [calamusref08_Do.l0]
  exact ns_ (Ev.now _)
 have one : ∀ r, Ev (fun k => change_one.f k t c.f0 c.f1 c.f2) r → r.2 ≠ 0 → Ev (fun k => change_Do.l0 k t [c] ([c].length : Int) 0) ((⟨#[]⟩ : ByteArray), r.2) := by
  intro r h1 h2
  refine ev_off 1 ?_
  simp only [change_Do.l0, rd0]
  exact ps_ (ps_ (ps_ (ev_bind h1 (ev_neg h2 (Ev.now _)))))
 cases b with
 | false =>
  refine ⟨(⟨#[]⟩ : ByteArray), 1, by decide, one ((⟨#[]⟩ : ByteArray), 1) ?_ (by simp), ?_⟩
  ·unfold change_one.f
   exact ev_bind f1 (ns_ (Ev.now _))
  ·refine ev_off 1 ?_
   simp only [calamusref08_Do.l0, rd0]
   exact ps_ (ps_ (ev_bind f2 (ns_ (Ev.now _))))
 | true =>
  obtain ⟨g0, g1⟩ := f3 rfl
  have ew : wrap64 (c.f0 + (c.f1.size : Int)) = c.f0 + c.f1.size := by rw [wrap_id (by omega) (by omega)]
  have s1 : (t.extract 0 c.f0.toNat).size = c.f0.toNat := by rw [ByteArray.size_extract]; omega
  have s2 : (t.extract (c.f0 + (c.f1.size : Int)).toNat t.size).size = t.size - (c.f0 + (c.f1.size : Int)).toNat := by rw [ByteArray.size_extract]; omega
  have s3 : (t.extract 0 c.f0.toNat ++ c.f2).size = c.f0.toNat + c.f2.size := by rw [ByteArray.size_append, s1]
  have s4 : (t.extract 0 c.f0.toNat ++ c.f2 ++ t.extract (c.f0 + (c.f1.size : Int)).toNat t.size).size = c.f0.toNat + c.f2.size + (t.size - (c.f0 + (c.f1.size : Int)).toNat) := by rw [ByteArray.size_append, s3, s2]
  by_cases big : ((t.extract 0 c.f0.toNat ++ c.f2 ++ t.extract (c.f0 + (c.f1.size : Int)).toNat t.size).size : Int) > 4096
  ·refine ⟨(⟨#[]⟩ : ByteArray), 8, by decide, one ((⟨#[]⟩ : ByteArray), 8) ?_ (by simp), ?_⟩
   ·unfold change_one.f
    simp only [ew]
    exact ev_bind f1 (ev_pos rfl (ev_pos g0 (po_ (po_ (po_ (po_ (po_ (ev_pos big (Ev.now _)))))))))
   ·refine ev_off 1 ?_
    simp only [calamusref08_Do.l0, rd0, ew]
    exact ps_ (ps_ (ev_bind f2 (ev_pos rfl (ev_pos g0 (po_ (po_ (po_ (po_ (po_ (ev_pos big (Ev.now _)))))))))))
  ·refine ⟨t.extract 0 c.f0.toNat ++ c.f2 ++ t.extract (c.f0 + (c.f1.size : Int)).toNat t.size, 0, by omega, ?_, ?_⟩
   ·refine ev_off 1 ?_
    simp only [change_Do.l0, rd0, e1]
    refine ps_ (ps_ (ps_ (ev_bind (a := (t.extract 0 c.f0.toNat ++ c.f2 ++ t.extract (c.f0 + (c.f1.size : Int)).toNat t.size, 0)) ?_ (ev_pos rfl (tail1 _)))))
    unfold change_one.f
    simp only [ew]
    exact ev_bind f1 (ev_pos rfl (ev_pos g0 (po_ (po_ (po_ (po_ (po_ (ev_neg big (Ev.now _)))))))))
   ·refine ev_off 1 ?_
    simp only [calamusref08_Do.l0, rd0, ew, e1]
    exact ps_ (ps_ (ev_bind f2 (ev_pos rfl (ev_pos g0 (po_ (po_ (po_ (po_ (po_ (ev_neg big (tail2 _)))))))))))
def Short (ns : List S69) : Prop := ∀ j, j < ns.length → (nd ns j).f4.f1.size ≤ 9000 ∧ (nd ns j).f4.f2.size ≤ 9000 ∧ bInt .i64 (nd ns j).f4.f0
def Small (o : List ByteArray) : Prop := ∀ j : Nat, (o.getD j ByteArray.empty).size ≤ 9000
theorem small_set {o : List ByteArray} (h : Small o) (i : Nat) (s : ByteArray) (hs : s.size ≤ 9000) : Small (o.set i s) := by
 intro j
 rw [List.getD_eq_getElem?_getD, List.getElem?_set]
 by_cases hij : i = j
 ·rw [if_pos hij]
  split
  ·simpa using hs
  ·exact Nat.zero_le _
 ·rw [if_neg hij, ← List.getD_eq_getElem?_getD]; exact h j
theorem rdo (o : List ByteArray) (i : Nat) : rdOf ByteArray.empty o (i : Int) = o.getD i ByteArray.empty := by simp [rdOf]
theorem texts_l1 {ns : List S69} {c : Nat} (g : RightP ns (c : Int)) (sh : Short ns) (fl : List Bool) (hf : fl.length = ns.length) (hfl : ∀ j, j < ns.length → (fl.getD j false = true ↔ j ∈ ch ns c)) (right : Bool) (d : Nat) :
  ∀ (i : Nat) (o : List ByteArray), i + d = ns.length → o.length = ns.length → Small o → ∃ v : List ByteArray × Int, v.1.length ≤ 1100 ∧ Ev (fun k => tree_Texts.l1 k o fl ns (ns.length : Int) (i : Int)) v ∧ Ev (fun k => calamusref11_Texts.l1 k o (i : Int) ns (c : Int)) v := by
 have hl := right_len g
 have hc := right_cur g
 induction d with
 | zero =>
  intro i o hi ho hs
  refine ⟨(o, 0), by simp; omega, ev_off 1 ?_, ev_off 1 ?_⟩
  ·simp only [tree_Texts.l1]
   exact no_ (Ev.now _)
  ·simp only [calamusref11_Texts.l1]
   exact no_ (Ev.now _)
 | succ d ih =>
  intro i o hi ho hs
  have e1 : wrap64 ((i : Int) + 1) = ((i + 1 : Nat) : Int) := by rw [wrap_id (by omega) (by omega)]; rfl
  have rdf : rdOf false fl (i : Int) = fl.getD i false := by simp [rdOf]
  by_cases q : i ∈ ch ns c
  ·obtain ⟨v, h0, h1, h2⟩ := ih (i + 1) o (by omega) ho hs
   refine ⟨v, h0, ev_off 1 ?_, ev_off 1 ?_⟩
   ·simp only [tree_Texts.l1, rdf, e1, (hfl i (by omega)).2 q]
    exact po_ (po_ (po_ (po_ (ev_pos trivial h1))))
   ·simp only [calamusref11_Texts.l1, e1]
    refine po_ (ev_bind (on_is g i c (by omega)) ?_)
    rw [decide_eq_true q]
    exact ev_pos rfl h2
  ·have qf : fl.getD i false = false := by
    cases h : fl.getD i false with
    | false => rfl
    | true => exact absurd ((hfl i (by omega)).1 h) q
   have h0 : 0 < i := by
    rcases Nat.eq_zero_or_pos i with rfl | h
    ·exact absurd (ch_zero_mem g c (by omega)) q
    ·exact h
   have hu := right_up g (j := i) (by omega) h0
   obtain ⟨c1, c2, c3⟩ := sh i (by omega)
   have er : rdOf ByteArray.empty o (nd ns i).f0 = o.getD (nd ns i).f0.toNat ByteArray.empty := rfl
   obtain ⟨s, e, b1, b2, b3⟩ := one_both (o.getD (nd ns i).f0.toNat ByteArray.empty) (nd ns i).f4 (hs _) c1 c2 c3
   by_cases he : e = 0
   ·obtain ⟨v, h3, h4, h5⟩ := ih (i + 1) (o.set i s) (by omega) (by simpa using ho) (small_set hs i s (by omega))
    refine ⟨v, h3, ev_off 1 ?_, ev_off 1 ?_⟩
    ·simp only [tree_Texts.l1, rdf, e1, qf, rd_nd, er]
     exact po_ (po_ (po_ (po_ (ns_ (ev_pos hu.1 (po_ (ev_bind b2 (ev_pos he (po_ h4)))))))))
    ·simp only [calamusref11_Texts.l1, e1, rd_nd, er]
     refine po_ (ev_bind (on_is g i c (by omega)) ?_)
     rw [decide_eq_false q]
     exact ns_ (po_ (ev_pos hu.1 (po_ (ev_bind b3 (ev_pos he (po_ h5))))))
   ·refine ⟨([], e), by simp, ev_off 1 ?_, ev_off 1 ?_⟩
    ·simp only [tree_Texts.l1, rdf, e1, qf, rd_nd, er]
     exact po_ (po_ (po_ (po_ (ns_ (ev_pos hu.1 (po_ (ev_bind b2 (ev_neg he (Ev.now _)))))))))
    ·simp only [calamusref11_Texts.l1, e1, rd_nd, er]
     refine po_ (ev_bind (on_is g i c (by omega)) ?_)
     rw [decide_eq_false q]
     exact ns_ (po_ (ev_pos hu.1 (po_ (ev_bind b3 (ev_neg he (Ev.now _))))))
theorem getD_set_true (fl : List Bool) (k j : Nat) (hk : k < fl.length) : ((fl.set k true).getD j false = true) ↔ fl.getD j false = true ∨ j = k := by
 rw [List.getD_eq_getElem?_getD, List.getElem?_set, List.getD_eq_getElem?_getD]
 by_cases h : k = j
 ·subst h; rw [if_pos rfl, if_pos hk]; simp
 ·rw [if_neg h]; exact ⟨.inl, fun q => q.elim id fun q => absurd q.symm h⟩
theorem texts_l0 {ns : List S69} {c : Nat} (g : RightP ns (c : Int)) (sh : Short ns) (right : Bool) (L : List Nat) (hL : L.length ≤ 1100) (k : Nat) : ∀ (pre : List Nat) (o : List ByteArray) (fl : List Bool) (t : ByteArray), k < ns.length → L = pre ++ ch ns k →
  o.length = ns.length → fl.length = ns.length → Small o → t.size ≤ 9000 →
  (∃ e : Int, Ev (fun n => tree_Texts.l0 n t o fl (ints L) (L.length : Int) (pre.length : Int) ns (c : Int) right) ([], e) ∧ Ev (fun n => calamusref11_Texts.l0 n (o.set k t) (k : Int) ns (c : Int)) ([], e)) ∨
  ∃ (o' : List ByteArray) (fl' : List Bool), o'.length = ns.length ∧ fl'.length = ns.length ∧ Small o' ∧ (∀ j, fl'.getD j false = true ↔ fl.getD j false = true ∨ j ∈ ch ns k) ∧
   (∀ r, Ev (fun n => tree_Texts.l1 n o' fl' ns (ns.length : Int) 0) r → Ev (fun n => tree_Texts.l0 n t o fl (ints L) (L.length : Int) (pre.length : Int) ns (c : Int) right) r) ∧
   (∀ r, Ev (fun n => calamusref11_Texts.l1 n o' 0 ns (c : Int)) r → Ev (fun n => calamusref11_Texts.l0 n (o.set k t) (k : Int) ns (c : Int)) r) := by
 have hl := right_len g
 have ll := ints_length L
 induction k using Nat.strongRecOn with
 | ind k ih =>
  intro pre o fl t hk eL ho hf hs ht
  obtain ⟨T, hT⟩ := ch_head ns k
  have hpl : pre.length < L.length := by rw [eL, hT]; simp
  have r1 : rd (ints L) (pre.length : Int) = (k : Int) := by
   rw [rd_ints L _ hpl]
   simp only [eL, hT, List.getElem_append_right (Nat.le_refl _), Nat.sub_self, List.getElem_cons_zero]
  have e1 : wrap64 ((pre.length : Int) + 1) = ((pre.length + 1 : Nat) : Int) := by rw [wrap_id (by omega) (by omega)]; rfl
  have e2 : wrap64 ((pre.length : Int) + 1) = (((pre ++ [k]).length : Nat) : Int) := by rw [e1]; simp
  rcases Nat.eq_zero_or_pos k with rfl | h0
  ·refine .inr ⟨o.set 0 t, fl.set 0 true, by simpa using ho, by simpa using hf, small_set hs 0 t ht, fun j => ?_, fun r h => ev_off 1 ?_, fun r h => ev_off 1 ?_⟩
   ·rw [getD_set_true fl 0 j (by omega), ch_zero]; simp
   ·simp only [tree_Texts.l0, r1, Option.bind_some]
    refine po_ (po_ (po_ (po_ (po_ (po_ (po_ (ev_off 1 ?_)))))))
    simp only [tree_Texts.j1]
    exact h
   ·simp only [calamusref11_Texts.l0]
    exact no_ h
  ·have hu := right_up g hk h0
   have hch := ch_pos g hk h0
   obtain ⟨c1, c2, c3⟩ := sh k hk
   obtain ⟨s, e, b1, b2, b3⟩ := one_both t ⟨(nd ns k).f4.f0, (nd ns k).f4.f2, (nd ns k).f4.f1⟩ ht c2 c1 c3
   have ro : rdOf ByteArray.empty (o.set k t) (k : Int) = t := by
    rw [rdo, List.getD_eq_getElem?_getD, List.getElem?_set, if_pos rfl, if_pos (by omega)]; rfl
   have st : (o.set k t).length = ns.length := by simpa using ho
   by_cases he : e = 0
   ·have go1 : ∀ r, Ev (fun n => tree_Texts.l0 n s (o.set k t) (fl.set k true) (ints L) (L.length : Int) ((pre ++ [k]).length : Int) ns (c : Int) right) r → Ev (fun n => tree_Texts.l0 n t o fl (ints L) (L.length : Int) (pre.length : Int) ns (c : Int) right) r := fun r h => by
     refine ev_off 1 ?_
     simp only [tree_Texts.l0, r1, e2, Option.bind_some, rd_nd, change_Turn.f]
     exact po_ (po_ (po_ (po_ (po_ (po_ (no_ (po_ (ev_bind b2 (ev_pos he h)))))))))
    have go2 : ∀ r, Ev (fun n => calamusref11_Texts.l0 n ((o.set k t).set (nd ns k).f0.toNat s) ((nd ns k).f0.toNat : Int) ns (c : Int)) r → Ev (fun n => calamusref11_Texts.l0 n (o.set k t) (k : Int) ns (c : Int)) r := fun r h => by
     rw [Int.toNat_of_nonneg hu.1] at h
     refine ev_off 1 ?_
     simp only [calamusref11_Texts.l0, ro, rd_nd]
     exact po_ (po_ (po_ (po_ (ev_bind b3 (ev_pos he (ev_pos hu.1 (po_ h)))))))
    rcases ih (nd ns k).f0.toNat (by omega) (pre ++ [k]) (o.set k t) (fl.set k true) s (by omega) (by rw [eL, hch]; simp) st (by simpa using hf) (small_set hs k t ht) (by omega) with ⟨e', i1, i2⟩ | ⟨o', fl', i1, i2, i3, i4, i5, i6⟩
    ·exact .inl ⟨e', go1 _ i1, go2 _ i2⟩
    ·refine .inr ⟨o', fl', i1, i2, i3, fun j => ?_, fun r h => go1 r (i5 r h), fun r h => go2 r (i6 r h)⟩
     rw [i4, getD_set_true fl k j (by omega), hch, List.mem_cons, or_assoc]
   ·refine .inl ⟨e, ev_off 1 ?_, ev_off 1 ?_⟩
    ·simp only [tree_Texts.l0, r1, e2, Option.bind_some, rd_nd, change_Turn.f]
     exact po_ (po_ (po_ (po_ (po_ (po_ (no_ (po_ (ev_bind b2 (ev_neg he (Ev.now _))))))))))
    ·simp only [calamusref11_Texts.l0, ro, rd_nd]
     exact po_ (po_ (po_ (po_ (ev_bind b3 (ev_neg he (Ev.now _))))))
theorem small_rep (n : Nat) : Small (List.replicate n (⟨#[]⟩ : ByteArray)) := by
 intro j
 rw [List.getD_eq_getElem?_getD, List.getElem?_replicate]
 split
 ·exact Nat.zero_le _
 ·exact Nat.zero_le _
theorem texts_is (ns : List S69) (c : Int) (t : ByteArray) (sh : Short ns) (ht : t.size ≤ 9000) : ∃ v : List ByteArray × Int, v.1.length ≤ 1100 ∧ Ev (fun n => tree_Texts.f n ns c t) v ∧ Ev (fun n => calamusref11_Texts.f n ns c t) v := by
 obtain ⟨b, h1, h2, h3⟩ := both_is ns c
 cases b with
 | false =>
  refine ⟨([], 1), by simp, ?_, ?_⟩
  ·unfold tree_Texts.f
   exact ev_bind (open_is h1) (ns_ (Ev.now _))
  ·unfold calamusref11_Texts.f
   exact ev_bind h2 (ns_ (Ev.now _))
 | true =>
  have g := h3.1 rfl
  have hl := right_len g
  have hc := right_cur g
  obtain ⟨c, rfl⟩ := Int.eq_ofNat_of_zero_le hc.1
  have hcl := ch_length ns c
  have gt : ∀ r, Ev (fun n => tree_Texts.l0 n t (List.replicate ns.length (⟨#[]⟩ : ByteArray)) (List.replicate ns.length false) (ints (ch ns c)) ((ch ns c).length : Int) (([] : List Nat).length : Int) ns (c : Int) true) r → Ev (fun n => tree_Texts.f n ns (c : Int) t) r := fun r h => by
   unfold tree_Texts.f
   refine ev_bind (open_is h1) (ev_pos rfl (ps_ (ev_pos (by simp; omega) (ev_pos (by simp; omega) (ev_bind (up_is g c (by omega)) ?_)))))
   simp only [Int.toNat_natCast, ints_length]
   exact h
  have gr : ∀ r, Ev (fun n => calamusref11_Texts.l0 n ((List.replicate ns.length (⟨#[]⟩ : ByteArray)).set c t) (c : Int) ns (c : Int)) r → Ev (fun n => calamusref11_Texts.f n ns (c : Int) t) r := fun r h => by
   unfold calamusref11_Texts.f
   refine ev_bind h2 (ev_pos rfl (ps_ (ev_pos (by simp; omega) ?_)))
   simp only [Option.bind_some, Int.toNat_natCast, List.length_replicate]
   exact po_ (po_ h)
  rcases texts_l0 g sh true (ch ns c) (by omega) c [] (List.replicate ns.length (⟨#[]⟩ : ByteArray)) (List.replicate ns.length false) t (by omega) rfl (by simp) (by simp) (small_rep _) ht with ⟨e, i1, i2⟩ | ⟨o', fl', i1, i2, i3, i4, i5, i6⟩
  ·exact ⟨([], e), by simp, gt _ i1, gr _ i2⟩
  ·obtain ⟨v, v1, v2, v3⟩ := texts_l1 g sh fl' i2 (fun j hj => by
     rw [i4, List.getD_eq_getElem?_getD, List.getElem?_replicate, if_pos hj]; simp) true ns.length 0 o' (by omega) i1 i3
   exact ⟨v, v1, gt _ (i5 _ v2), gr _ (i6 _ v3)⟩
theorem alike_l0 (l : List ByteArray) (hn : l.length ≤ 1000000000000) (d : Nat) : ∀ i : Nat, i + d = l.length → Ev (fun k => calamusref11_Alike.l0 k l l (i : Int)) true := by
 induction d with
 | zero =>
  intro i hi
  refine ev_off 1 ?_
  simp only [calamusref11_Alike.l0]
  exact no_ (Ev.now _)
 | succ d ih =>
  intro i hi
  have e1 : wrap64 ((i : Int) + 1) = ((i + 1 : Nat) : Int) := by rw [wrap_id (by omega) (by omega)]; rfl
  refine ev_off 1 ?_
  simp only [calamusref11_Alike.l0, e1]
  exact po_ (po_ (po_ (ev_pos trivial (ih (i + 1) (by omega)))))
theorem alike_is (l : List ByteArray) (hn : l.length ≤ 1000000000000) : Ev (fun k => calamusref11_Alike.f k l l) true := by
 unfold calamusref11_Alike.f
 exact ev_pos rfl (alike_l0 l hn l.length 0 (by omega))
def sumTo (ns : List S69) : Nat → Nat
 | 0 => 0
 | n + 1 => sumTo ns n + ((nd ns n).f4.f1.size + (nd ns n).f4.f2.size)
theorem sumTo_ge (ns : List S69) (j : Nat) : ∀ n, j < n → (nd ns j).f4.f1.size + (nd ns j).f4.f2.size ≤ sumTo ns n
 | 0, h => by omega
 | n + 1, h => by
  by_cases e : j = n
  ·subst e; simp only [sumTo]; omega
  ·have := sumTo_ge ns j n (by omega); simp only [sumTo]; omega
theorem sumTo_le {ns : List S69} (h : ∀ j, j < ns.length → (nd ns j).f4.f1.size ≤ 140737488351232 ∧ (nd ns j).f4.f2.size ≤ 140737488351232) : ∀ n, n ≤ ns.length → sumTo ns n ≤ n * 281474976702464
 | 0, _ => by simp [sumTo]
 | n + 1, hn => by
  have := sumTo_le h n (by omega); have := h n (by omega); simp only [sumTo]; omega
theorem nodes_ok {ns : List S69} (h : bSl 72 b69 ns) (j : Nat) (hj : j < ns.length) : (nd ns j).f4.f1.size ≤ 140737488351232 ∧ (nd ns j).f4.f2.size ≤ 140737488351232 ∧ bInt .i64 (nd ns j).f4.f0 := by
 have : nd ns j = ns[j] := by unfold nd; rw [List.getD_eq_getElem?_getD, List.getElem?_eq_getElem hj]; rfl
 rw [this]
 have q := h.2 ns[j] (List.getElem_mem hj)
 exact ⟨q.2.2.2.2.2.1, q.2.2.2.2.2.2, q.2.2.2.2.1⟩
end Go.Proofs.Ytkiokimpblimcaa.TreeTextsTexts
