/- The law TreeSteps, over the functions alone: one goes back and forth in a tree, and chooses, as the document's functions do. Conditions: none but the row's own. -/
import Derived.Test.YtkiokimpblimcaaTreeStepsTree
namespace Go.Proofs.Ytkiokimpblimcaa.Pure
open Go.RowKit Go.Proofs.YtkiokimpblimcaaW.PrintWords Go.Proofs.YtkiokimpblimcaaW.PrintLast Go.Proofs.YtkiokimpblimcaaW.PrintMore
open Go.Proofs.Ytkiokimpblimcaa.PTreeSteps Go.Proofs.Ytkiokimpblimcaa.TreeStepsTree
theorem TreeSteps : calamuslaw11_TreeSteps.Pure := by
  intro ns c x _ _ _
  refine Ev.rounds (r := true) ?_
  unfold calamuslaw11_TreeSteps.f
  by_cases hn : (ns.length : Int) > 1100
  · exact ev_pos hn (ev_bind lives_ (Ev.now _))
  refine ev_neg hn ?_
  obtain ⟨b, h1, h2, h3⟩ := both_is ns c
  have u : ∃ v : List S69 × Int × Int × Bool, v.1.length ≤ 1100 ∧ Ev (fun k => tree_Undo.f k ns c) v ∧ Ev (fun k => calamusref11_Undo.f k ns c) v := by
    cases b with
    | false => exact ⟨_, by simp, undo_no h1, rundo_no h2⟩
    | true => exact ⟨_, by unfold undoV; split <;> simp <;> omega, undo_yes h1 (h3.1 rfl), rundo_yes h2 (h3.1 rfl)⟩
  have r : ∃ v : List S69 × Int × Int × Bool, v.1.length ≤ 1100 ∧ Ev (fun k => tree_Redo.f k ns c) v ∧ Ev (fun k => calamusref11_Redo.f k ns c) v := by
    cases b with
    | false => exact ⟨_, by simp, redo_no h1, rredo_no h2⟩
    | true => exact ⟨_, by unfold redoV; split <;> simp <;> omega, redo_yes h1 (h3.1 rfl), rredo_yes h2 (h3.1 rfl)⟩
  have o : ∃ v : List S69 × Int × Int, v.1.length ≤ 1100 ∧ Ev (fun k => tree_Choose.f k ns c x) v ∧ Ev (fun k => calamusref11_Choose.f k ns c x) v := by
    cases b with
    | false => exact ⟨_, by simp, choose_no h1, rchoose_no h2⟩
    | true =>
      by_cases hx : 0 < x ∧ x < (ns.length : Int)
      · exact ⟨_, by simp only [setNext_length]; omega, choose_yes h1 (h3.1 rfl) hx, rchoose_yes h2 (h3.1 rfl) hx⟩
      · exact ⟨_, by simp, choose_none h1 hx, rchoose_none h2 hx⟩
  obtain ⟨v, vl, v1, v2⟩ := u
  obtain ⟨w, wl, w1, w2⟩ := r
  obtain ⟨y, yl, y1, y2⟩ := o
  obtain ⟨l, ll, l1, l2⟩ := kids_is ns c x
  refine ev_bind v1 (ev_bind v2 (ev_bind (same11_is _ _ (by omega)) (ev_pos rfl (ev_pos rfl (ev_off 1 ?_)))))
  simp only [calamuslaw11_TreeSteps.j0, bne_self_eq_false]
  refine ev_neg (by simp) (ev_bind (w1) (ev_bind (w2) (ev_bind (same11_is _ _ (by omega)) (ev_pos rfl (ev_pos rfl (ev_neg (by simp) (ev_bind (l1) (ev_bind (l2) (ev_bind (same01_is l (by omega)) (ev_off 1 ?_))))))))))
  simp only [calamuslaw11_TreeSteps.j1, Bool.not_true]
  exact ev_neg (by simp) (ev_bind y1 (ev_bind y2 (ev_bind (same11_is _ _ (by omega)) (ev_pos rfl (ev_pos rfl (ev_bind lives_ (Ev.now _)))))))
end Go.Proofs.Ytkiokimpblimcaa.Pure
