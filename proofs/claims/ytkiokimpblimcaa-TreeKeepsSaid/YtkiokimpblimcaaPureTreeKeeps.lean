/- The law TreeKeeps, over the functions alone: what is added makes the text at the new node of that at the old one; all other nodes and texts stay. Conditions: none but the row's own. -/
import Derived.Test.YtkiokimpblimcaaTreeKeepsKeeps
namespace Go.Proofs.Ytkiokimpblimcaa.Pure
open Go.RowKit Go.Proofs.YtkiokimpblimcaaW.PrintWords Go.Proofs.YtkiokimpblimcaaW.PrintLast Go.Proofs.YtkiokimpblimcaaW.PrintMore
open Go.Proofs.Ytkiokimpblimcaa.PTreeKeeps Go.Proofs.Ytkiokimpblimcaa.Utf Go.Proofs.Ytkiokimpblimcaa.TreeKeepsTree Go.Proofs.Ytkiokimpblimcaa.TreeKeepsKeeps Go.Proofs.Ytkiokimpblimcaa.Open
def sumTo (ns : List S69) : Nat → Nat
 | 0 => 0
 | n + 1 => sumTo ns n + ((nd ns n).f4.f1.size + (nd ns n).f4.f2.size)
theorem sumTo_ge (ns : List S69) (j : Nat) : ∀ n, j < n → (nd ns j).f4.f1.size + (nd ns j).f4.f2.size ≤ sumTo ns n
 | 0, h => by omega
 | n + 1, h => by
  by_cases e : j = n
  ·subst e; simp only [sumTo]; omega
  ·have := sumTo_ge ns j n (by omega); simp only [sumTo]; omega
theorem sumTo_le {ns : List S69} (h : ∀ j, j < ns.length → (nd ns j).f4.f1.size ≤ 140737488351232 ∧ (nd ns j).f4.f2.size ≤ 140737488351232) : ∀ n, n ≤ ns.length → sumTo ns n ≤ n * 281474976702464
 | 0, _ => by simp [sumTo]
 | n + 1, hn => by
  have := sumTo_le h n (by omega); have := h n (by omega); simp only [sumTo]; omega
theorem nodes_ok {ns : List S69} (h : bSl 72 b69 ns) (j : Nat) (hj : j < ns.length) : (nd ns j).f4.f1.size ≤ 140737488351232 ∧ (nd ns j).f4.f2.size ≤ 140737488351232 := by
 have : nd ns j = ns[j] := by unfold nd; rw [List.getD_eq_getElem?_getD, List.getElem?_eq_getElem hj]; rfl
 rw [this]
 have q := h.2 ns[j] (List.getElem_mem hj)
 exact ⟨q.2.2.2.2.2.1, q.2.2.2.2.2.2⟩
theorem rdo (o : List ByteArray) (i : Nat) : rdOf ByteArray.empty o (i : Int) = o.getD i ByteArray.empty := by simp [rdOf]
theorem keeps_l1 {ns : List S69} {c : Nat} {t s0 : ByteArray} {a : List ByteArray} (hc : c < a.length) (ha : a.length ≤ 1024) (e : a.getD c ByteArray.empty = t) (d : Nat) : ∀ i : Nat, i + d = a.length → Ev (fun k => calamuslaw11_TreeKeeps.l1 k t a (a ++ [s0]) (i : Int) ns (c : Int)) true := by
 have al : (a ++ [s0]).length = a.length + 1 := by simp
 induction d with
 | zero =>
  intro i hi
  refine ev_off 1 ?_
  simp only [calamuslaw11_TreeKeeps.l1, rdo, e]
  exact ev_neg (by omega) (ev_pos (by omega) (ev_pos (by omega) (ev_pos trivial (ev_bind lives_ (Ev.now _)))))
 | succ d ih =>
  intro i hi
  have e1 : wrap64 ((i : Int) + 1) = ((i + 1 : Nat) : Int) := by rw [wrap_id (by omega) (by omega)]; rfl
  refine ev_off 1 ?_
  simp only [calamuslaw11_TreeKeeps.l1, rdo, getD_app a s0 i (by omega), e1]
  exact ev_pos (by omega) (ev_pos (by omega) (ev_pos (by omega) (ev_pos trivial (ih (i + 1) (by omega)))))
set_option maxHeartbeats 2000000 in
theorem TreeKeeps : calamuslaw11_TreeKeeps.Pure := by
 intro ns c t t2 hns _ ht ht2
 refine Ev.rounds (r := true) ?_
 have ht0 : t.size ≤ 140737488351232 := ht
 have ht1 : t2.size ≤ 140737488351232 := ht2
 have ok := nodes_ok hns
 have j2t : Ev (fun k => calamuslaw11_TreeKeeps.j2 k t t2 true ns c) true := by
  refine ev_off 1 ?_
  simp only [calamuslaw11_TreeKeeps.j2]
  exact ev_pos trivial (ev_bind lives_ (Ev.now _))
 have lp : ∀ (d i : Nat), i + d = min ns.length 61 → Ev (fun k => calamuslaw11_TreeKeeps.j1 k t t2 ((t.size + t2.size + sumTo ns (min ns.length 61) : Nat) : Int) ns c) true → Ev (fun k => calamuslaw11_TreeKeeps.l0 k t t2 ((t.size + t2.size + sumTo ns i : Nat) : Int) (i : Int) ns c) true := by
  intro d
  induction d with
  | zero =>
   intro i hi h
   rw [show min ns.length 61 = i from by omega] at h
   refine ev_off 1 ?_
   simp only [calamuslaw11_TreeKeeps.l0]
   by_cases q : (i : Int) < (ns.length : Int)
   ·exact ev_pos q (ev_neg (by omega) h)
   ·exact ev_neg q h
  | succ d ih =>
   intro i hi h
   have e1 : wrap64 ((i : Int) + 1) = ((i + 1 : Nat) : Int) := by rw [wrap_id (by omega) (by omega)]; rfl
   have b := sumTo_le (fun j hj => ⟨(ok j hj).1, (ok j hj).2⟩) i (by omega)
   have b1 := ok i (by omega)
   have e2 : wrap64 (((nd ns i).f4.f1.size : Int) + ((nd ns i).f4.f2.size : Int)) = (((nd ns i).f4.f1.size + (nd ns i).f4.f2.size : Nat) : Int) := by rw [wrap_id (by omega) (by omega)]; omega
   have e3 : wrap64 (((t.size + t2.size + sumTo ns i : Nat) : Int) + (((nd ns i).f4.f1.size + (nd ns i).f4.f2.size : Nat) : Int)) = ((t.size + t2.size + sumTo ns (i + 1) : Nat) : Int) := by
    simp only [sumTo]
    rw [wrap_id (by omega) (by omega)]; omega
   refine ev_off 1 ?_
   simp only [calamuslaw11_TreeKeeps.l0, rd_nd, e1, e2, e3]
   exact ev_pos (by omega) (ev_pos (by omega) (ev_pos (by omega) (ih (i + 1) (by omega) h)))
 unfold calamuslaw11_TreeKeeps.f
 have e0 : wrap64 ((t.size : Int) + (t2.size : Int)) = ((t.size + t2.size : Nat) : Int) := by rw [wrap_id (by omega) (by omega)]; omega
 rw [e0]
 have := lp (min ns.length 61) 0 (by omega) ?_
 ·simpa [sumTo] using this
 refine ev_off 1 ?_
 simp only [calamuslaw11_TreeKeeps.j1]
 by_cases h1 : (ns.length : Int) > 60
 ·exact ev_pos h1 j2t
 refine ev_neg h1 ?_
 have hm : min ns.length 61 = ns.length := by omega
 rw [hm]
 by_cases h2 : ((t.size + t2.size + sumTo ns ns.length : Nat) : Int) > 3000
 ·rw [decide_eq_true h2]; exact j2t
 rw [decide_eq_false h2]
 refine ev_off 1 ?_
 simp only [calamuslaw11_TreeKeeps.j2]
 refine ev_neg (by simp) ?_
 have sh : Short ns := fun j hj => by
  have := sumTo_ge ns j ns.length hj
  exact ⟨by omega, by omega⟩
 obtain ⟨x, u, f, d1, d2, d3⟩ := diffdo t t2 (by omega) (by omega)
 obtain ⟨b, q1, q2⟩ := check_is ns c
 have j3t : ∀ (a : List ByteArray) (s : ByteArray), Ev (fun k => calamuslaw11_TreeKeeps.j3 k t a s true ns c x.f0 x.f1 x.f2) true := fun a s => by
  refine ev_off 1 ?_
  simp only [calamuslaw11_TreeKeeps.j3]
  exact ev_pos trivial (ev_bind lives_ (Ev.now _))
 cases b with
 | false =>
  refine ev_bind (a := ([], 1)) ?_ (ev_bind d1 (ev_bind d2 (ev_neg (by simp) (j3t _ _))))
  unfold tree_Texts.f
  exact ev_bind (open_is q1) (ev_neg (by simp) (Ev.now _))
 | true =>
  have g := q2.1 rfl
  have hl := right_len g
  have hc := right_cur g
  obtain ⟨c, rfl⟩ := Int.eq_ofNat_of_zero_le hc.1
  by_cases hf : f = 0
  ·subst hf
   obtain ⟨u1, u2, u3, u4⟩ := d3 rfl
   have g2 := right_addV g x (by omega)
   obtain ⟨b2, p1, p2⟩ := check_is (addV ns c x) (ns.length : Int)
   obtain rfl := p2.2 g2
   obtain ⟨⟨a, e⟩, v1, v2⟩ := keep_is q1 g sh (by omega) t (by omega) x u p1 u4
   by_cases he : e = 0
   ·subst he
    obtain ⟨w1, w2, w3⟩ := v2 rfl
    simp only at w1 w2 w3
    refine ev_bind v1 (ev_bind d1 (ev_bind d2 (ev_pos rfl (ev_off 1 ?_))))
    simp only [calamuslaw11_TreeKeeps.j3]
    have al : (a ++ [u]).length = ns.length + 1 := by simp [w1]
    have hn : ns.length < 1024 := by omega
    have el : wrap64 ((a.length : Int) + 1) = ((ns.length + 1 : Nat) : Int) := by rw [wrap_id (by omega) (by omega)]; omega
    have er : rdOf ByteArray.empty (a ++ [u]) (ns.length : Int) = u := by
     rw [rdo, List.getD_eq_getElem?_getD, List.getElem?_append_right (by omega), w1, Nat.sub_self]; rfl
    have rt : Ev (fun k => tree_Right.f k (addV ns c x) (ns.length : Int)) true := by
     unfold tree_Right.f
     exact ev_bind (open_is p1) (Ev.now _)
    refine ev_neg (by simp) (ev_bind (add_yes q1 g x hn) (ev_bind w3 (ev_pos rfl (ev_pos rfl (ev_bind rt (ev_pos rfl ?_))))))
    simp only [el, er]
    clear el er
    refine ev_pos (by omega) (ev_pos (by omega) (ev_pos (by omega) (ev_pos (by omega) (ev_off 1 ?_))))
    simp only [calamuslaw11_TreeKeeps.j4]
    exact ev_neg (by simp) (keeps_l1 (by omega) (by omega) w2 a.length 0 (by omega))
   ·exact ev_bind v1 (ev_bind d1 (ev_bind d2 (ev_neg he (j3t _ _))))
  ·have hfl : (f != 0) = true := by simp [hf]
   obtain ⟨v, v1⟩ := texts_some q1 g sh t (by omega)
   refine ev_bind v1 (ev_bind d1 (ev_bind d2 ?_))
   simp only [hfl]
   by_cases he : v.2 = 0
   ·exact ev_pos he (j3t _ _)
   ·exact ev_neg he (j3t _ _)
end Go.Proofs.Ytkiokimpblimcaa.Pure
