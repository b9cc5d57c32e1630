/- The law TreeTexts, over the functions alone: the text at each node is as the document's function tells, or there is its error. Conditions: none but the row's own. -/
import Derived.Test.YtkiokimpblimcaaTreeTextsTexts
namespace Go.Proofs.Ytkiokimpblimcaa.Pure
open Go.RowKit Go.Proofs.YtkiokimpblimcaaW.PrintWords Go.Proofs.YtkiokimpblimcaaW.PrintLast Go.Proofs.YtkiokimpblimcaaW.PrintMore
open Go.Proofs.Ytkiokimpblimcaa.PTreeTexts Go.Proofs.Ytkiokimpblimcaa.TreeTextsTree Go.Proofs.Ytkiokimpblimcaa.TreeTextsTexts Go.Proofs.Ytkiokimpblimcaa.Open
theorem TreeTexts : calamuslaw11_TreeTexts.Pure := by
 intro ns c t hns _ ht
 refine Ev.rounds (r := true) ?_
 have ht0 : t.size ≤ 140737488351232 := ht
 have ok := nodes_ok hns
 have j2t : Ev (fun k => calamuslaw11_TreeTexts.j2 k t true ns c) true := by
  refine ev_off 1 ?_
  simp only [calamuslaw11_TreeTexts.j2]
  exact ev_pos trivial (ev_bind lives_ (Ev.now _))
 have lp : ∀ (d i : Nat), i + d = min ns.length 61 → Ev (fun k => calamuslaw11_TreeTexts.j1 k t ((t.size + sumTo ns (min ns.length 61) : Nat) : Int) ns c) true → Ev (fun k => calamuslaw11_TreeTexts.l0 k t ((t.size + sumTo ns i : Nat) : Int) (i : Int) ns c) true := by
  intro d
  induction d with
  | zero =>
   intro i hi h
   rw [show min ns.length 61 = i from by omega] at h
   refine ev_off 1 ?_
   simp only [calamuslaw11_TreeTexts.l0]
   by_cases q : (i : Int) < (ns.length : Int)
   ·exact ev_pos q (ev_neg (by omega) h)
   ·exact ev_neg q h
  | succ d ih =>
   intro i hi h
   have e1 : wrap64 ((i : Int) + 1) = ((i + 1 : Nat) : Int) := by rw [wrap_id (by omega) (by omega)]; rfl
   have b := sumTo_le (fun j hj => ⟨(ok j hj).1, (ok j hj).2.1⟩) i (by omega)
   have b1 := ok i (by omega)
   have e2 : wrap64 (((nd ns i).f4.f1.size : Int) + ((nd ns i).f4.f2.size : Int)) = (((nd ns i).f4.f1.size + (nd ns i).f4.f2.size : Nat) : Int) := by rw [wrap_id (by omega) (by omega)]; omega
   have e3 : wrap64 (((t.size + sumTo ns i : Nat) : Int) + (((nd ns i).f4.f1.size + (nd ns i).f4.f2.size : Nat) : Int)) = ((t.size + sumTo ns (i + 1) : Nat) : Int) := by
    simp only [sumTo]
    rw [wrap_id (by omega) (by omega)]; omega
   refine ev_off 1 ?_
   simp only [calamuslaw11_TreeTexts.l0, rd_nd, e1, e2, e3]
   exact po_ (po_ (po_ (ih (i + 1) (by omega) h)))
 unfold calamuslaw11_TreeTexts.f
 have := lp (min ns.length 61) 0 (by omega) ?_
 ·simpa [sumTo] using this
 refine ev_off 1 ?_
 simp only [calamuslaw11_TreeTexts.j1]
 by_cases h1 : (ns.length : Int) > 60
 ·exact ev_pos h1 j2t
 refine ev_neg h1 ?_
 have hm : min ns.length 61 = ns.length := by omega
 rw [hm]
 by_cases h2 : ((t.size + sumTo ns ns.length : Nat) : Int) > 3000
 ·rw [decide_eq_true h2]; exact j2t
 rw [decide_eq_false h2]
 refine ev_off 1 ?_
 simp only [calamuslaw11_TreeTexts.j2]
 obtain ⟨v, v1, v2, v3⟩ := texts_is ns c t (fun j hj => by
  have := sumTo_ge ns j ns.length hj
  exact ⟨by omega, by omega, (ok j hj).2.2⟩) (by omega)
 exact ns_ (ev_bind v2 (ev_bind v3 (ev_bind (alike_is _ (by omega)) (ev_pos rfl (ev_pos rfl (ev_bind lives_ (Ev.now _)))))))
end Go.Proofs.Ytkiokimpblimcaa.Pure
