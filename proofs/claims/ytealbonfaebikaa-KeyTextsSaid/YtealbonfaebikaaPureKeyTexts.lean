/- KeyTexts: any keys one by one, and their text, and the keys that any text tells, are as the document says. -/
import Derived.Test.YtealbonfaebikaaKeyTextsKey
namespace Go.Proofs.Ytealbonfaebikaa.Pure
open Go.RowKit Go.Proofs.YtealbonfaebikaaW.PrintWords Go.Proofs.YtealbonfaebikaaW.PrintLast Go.Proofs.YtealbonfaebikaaW.PrintMore
open Go.Proofs.Ytealbonfaebikaa.PKeyTexts Go.Proofs.Ytealbonfaebikaa.Utf Go.Proofs.Ytealbonfaebikaa.Open Go.Proofs.Ytealbonfaebikaa.KeyTextsUtf Go.Proofs.Ytealbonfaebikaa.KeyTextsKey
set_option linter.unusedVariables false
theorem j0_is (a b : ByteArray) (ha : a.size ≤ 1000) (hb : b.size ≤ 1000) : Ev (fun k => calamuslaw13_KeyTexts.j0 k a b false) true := by
 have lv : Ev (fun k => (calamuslaw13_lives.f k).bind fun t => some t) true := ev_bind lives_ (Ev.now _)
 refine ev_off 1 ?_
 simp only [calamuslaw13_KeyTexts.j0]
 refine ev_neg (by simp) ?_
 obtain ⟨res, p1, p2⟩ := both_is hb
 suffices hh : ∃ (l : List ByteArray) (x : Int) (t : ByteArray) (y : Int), l.length ≤ 1000000 ∧ Ev (fun k => key_Split.f k a) (l, x) ∧ Ev (fun k => calamusref13_Split.f k a) (l, x) ∧ Ev (fun k => key_Text.f k a) (t, y) ∧ Ev (fun k => calamusref13_Text.f k a) (t, y) by
  obtain ⟨l, x, t, y, hl, q1, q2, q3, q4⟩ := hh
  exact ev_bind q1 (ev_bind q2 (ev_bind q3 (ev_bind q4 (ev_bind p1 (ev_bind p2 (ev_bind (same_is l hl) (evr (evr (evr (evr (evr (evr lv))))))))))))
 by_cases hv : Val (bytesOf a)
 ·obtain ⟨rs, h, e⟩ := hv
  have q1 := Go.Proofs.Ytealbonfaebikaa.KeyTextsKey.split_yes (by omega) h e
  have q2 := rsplit_yes (by omega) h e
  have q3 := text_yes (by omega) h e
  have q4 := rtext_yes (by omega) h e
  have hl := runes_len h e
  by_cases g : allR rs = true
  ·rw [if_pos g] at q1 q2 q3 q4
   exact ⟨_, _, _, _, by rw [List.length_map]; omega, q1, q2, q3, q4⟩
  ·rw [if_neg g] at q1 q2 q3 q4
   exact ⟨_, _, _, _, by simp, q1, q2, q3, q4⟩
 ·exact ⟨_, _, _, _, by simp, Go.Proofs.Ytealbonfaebikaa.KeyTextsKey.split_no hv, rsplit_no (by omega) hv, text_no hv, rtext_no (by omega) hv⟩
theorem KeyTexts : calamuslaw13_KeyTexts.Pure := by
 intro a b _ _
 refine Ev.rounds (g := fun k => calamuslaw13_KeyTexts.f k a b) ?_
 unfold calamuslaw13_KeyTexts.f
 have big : Ev (fun k => calamuslaw13_KeyTexts.j0 k a b true) true := by
  refine ev_off 1 ?_
  simp only [calamuslaw13_KeyTexts.j0]
  exact evr (ev_bind lives_ (Ev.now _))
 by_cases h1 : (a.size : Int) > 1000
 ·exact ev_pos h1 big
 ·refine ev_neg h1 ?_
  by_cases h2 : (b.size : Int) > 1000
  ·rw [decide_eq_true h2]; exact big
  ·rw [decide_eq_false h2]; exact j0_is a b (by omega) (by omega)
end Go.Proofs.Ytealbonfaebikaa.Pure
