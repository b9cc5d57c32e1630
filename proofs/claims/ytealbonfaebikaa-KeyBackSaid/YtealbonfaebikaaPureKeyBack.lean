/- KeyBack: keys lead to their text, and it back to them; no other text is theirs. -/
import Derived.Test.YtealbonfaebikaaKeyBackKey
namespace Go.Proofs.Ytealbonfaebikaa.Pure
open Go.RowKit Go.Proofs.YtealbonfaebikaaW.PrintWords Go.Proofs.YtealbonfaebikaaW.PrintLast Go.Proofs.YtealbonfaebikaaW.PrintMore
open Go.Proofs.Ytealbonfaebikaa.PKeyBack Go.Proofs.Ytealbonfaebikaa.Utf Go.Proofs.Ytealbonfaebikaa.Open Go.Proofs.Ytealbonfaebikaa.KeyBackUtf Go.Proofs.Ytealbonfaebikaa.KeyBackKey
set_option linter.unusedVariables false
theorem lv : Ev (fun k => (calamuslaw13_lives.f k).bind fun t => some t) true := ev_bind lives_ (Ev.now _)
theorem j1_is (s : ByteArray) (hs : s.size ≤ 1000) : Ev (fun k => calamuslaw13_KeyBack.j1 k s) true := by
 refine ev_off 1 ?_
 simp only [calamuslaw13_KeyBack.j1]
 by_cases hv : Val (bytesOf s)
 ·obtain ⟨rs, h, e⟩ := hv
  obtain ⟨ks, e2, p1, p2, p3⟩ := parse_yes h e (by omega)
  rcases p2 with rfl | rfl
  ·rw [if_pos rfl] at p1
   refine ev_bind p1 ?_
   obtain ⟨a1, a2, a3, a4, hb⟩ := p3 rfl
   have hk := glue_strs ks hb
   refine ev_pos rfl ?_
   have hz : (glueB (ks.map strOfNums)).size ≤ 1000 := by rw [← bytes_len, hk]; omega
   have t := text_yes (by omega) a1 hk
   rw [if_pos a2, a3] at t
   exact ev_bind t (evr (evr lv))
  ·rw [if_neg (show ¬ (3 : Int) = 0 by decide)] at p1
   exact ev_bind p1 (ev_neg (show ¬ (3 : Int) = 0 by decide) (ev_pos ((toList_nil _).2 rfl) lv))
 ·exact ev_bind (parse_no hv) (ev_neg (by decide) (ev_pos ((toList_nil _).2 rfl) lv))
theorem j0_is (a b : ByteArray) (ha : a.size ≤ 1000) (hb : b.size ≤ 1000) : Ev (fun k => calamuslaw13_KeyBack.j0 k a b false) true := by
 refine ev_off 1 ?_
 simp only [calamuslaw13_KeyBack.j0]
 refine ev_neg (by simp) ?_
 rcases text_or a (by omega) with ⟨rs, h, e, g, q⟩ | ⟨e, n, q⟩
 ·have f4 := runes_four h e
  have hbs : ∀ r ∈ rs, bytesOf (strOfNums r) = r := fun r hr => (f4 r hr).1
  have hk := glue_strs rs hbs
  have l1 := txt_size h e
  have m1 := runes_len h e
  have hfl : rs.flatten.length = a.size := by rw [← e, bytes_len]
  have p := parse_txt h g hbs (by omega)
  have hka : glueB (rs.map strOfNums) = a := bytes_inj (by rw [hk, e])
  rw [hka] at p
  exact ev_bind q (evr (ev_bind p (evr (evr (j1_is b hb)))))
 ·exact ev_bind q (ev_neg n (j1_is b hb))
theorem KeyBack : calamuslaw13_KeyBack.Pure := by
 intro a b _ _
 refine Ev.rounds (g := fun k => calamuslaw13_KeyBack.f k a b) ?_
 unfold calamuslaw13_KeyBack.f
 have big : Ev (fun k => calamuslaw13_KeyBack.j0 k a b true) true := by
  refine ev_off 1 ?_
  simp only [calamuslaw13_KeyBack.j0]
  exact evr lv
 by_cases h1 : (a.size : Int) > 1000
 ·exact ev_pos h1 big
 ·refine ev_neg h1 ?_
  by_cases h2 : (b.size : Int) > 1000
  ·rw [decide_eq_true h2]; exact big
  ·rw [decide_eq_false h2]; exact j0_is a b (by omega) (by omega)
end Go.Proofs.Ytealbonfaebikaa.Pure
