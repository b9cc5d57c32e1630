/- The law TreeGoes, over the functions alone: the way from where one is to a node, and the tree behind it, are as the document's functions tell. Conditions: none but the row's own. -/
import Derived.Test.YtkiokimpblimcaaTreeGoesTree
namespace Go.Proofs.Ytkiokimpblimcaa.Pure
open Go.RowKit Go.Proofs.YtkiokimpblimcaaW.PrintWords Go.Proofs.YtkiokimpblimcaaW.PrintLast Go.Proofs.YtkiokimpblimcaaW.PrintMore
open Go.Proofs.Ytkiokimpblimcaa.PTreeGoes Go.Proofs.Ytkiokimpblimcaa.TreeGoesTree
theorem TreeGoes : calamuslaw11_TreeGoes.Pure := by
  intro ns c x _ _ _
  refine Ev.rounds (r := true) ?_
  unfold calamuslaw11_TreeGoes.f
  by_cases hn : (ns.length : Int) > 150
  · exact ev_pos hn (ev_bind lives_ (Ev.now _))
  refine ev_neg hn ?_
  obtain ⟨b, h1, h2, h3⟩ := both_is ns c
  have p : ∃ v : List Int × List Int × Int, v.1.length ≤ 1100 ∧ v.2.1.length ≤ 1100 ∧ Ev (fun k => tree_Path.f k ns c x) v ∧ Ev (fun k => calamusref11_Path.f k ns c x) v := by
    cases b with
    | false => exact ⟨_, by simp, by simp, path_no h1, rpath_no h2⟩
    | true =>
      have g := h3.1 rfl
      have hc := right_cur g
      obtain ⟨c, rfl⟩ := Int.eq_ofNat_of_zero_le hc.1
      by_cases hx : 0 ≤ x ∧ x < (ns.length : Int)
      · obtain ⟨m, rfl⟩ := Int.eq_ofNat_of_zero_le hx.1
        refine ⟨_, ?_, ?_, path_yes h1 g m (by omega), rpath_yes h2 g m (by omega)⟩
        · have := upV_length (backP ns c m) ns.length
          simp only [pathV, ints_length, List.length_reverse]; omega
        · have := upV_length (backP ns m c) ns.length
          simp only [pathV, ints_length]; omega
      · exact ⟨_, by simp, by simp, path_none h1 hx, rpath_none h2 hx⟩
  have t : ∃ v : List S69 × Int × Int, v.1.length ≤ 1100 ∧ Ev (fun k => tree_To.f k ns c x) v ∧ Ev (fun k => calamusref11_To.f k ns c x) v := by
    cases b with
    | false => exact ⟨_, by simp, to_no h1, rto_no h2⟩
    | true =>
      have g := h3.1 rfl
      have hc := right_cur g
      obtain ⟨c, rfl⟩ := Int.eq_ofNat_of_zero_le hc.1
      by_cases hx : 0 ≤ x ∧ x < (ns.length : Int)
      · obtain ⟨m, rfl⟩ := Int.eq_ofNat_of_zero_le hx.1
        exact ⟨_, by simp only [toV, turnTo_length]; omega, to_yes h1 g m (by omega), rto_yes h2 g m (by omega)⟩
      · exact ⟨_, by simp, to_none h1 hx, rto_none h2 hx⟩
  obtain ⟨v, vl, vm, v1, v2⟩ := p
  obtain ⟨w, wl, w1, w2⟩ := t
  exact ev_bind v1 (ev_bind v2 (ev_bind w1 (ev_bind w2 (ev_bind (same01_is _ (by omega)) (ev_pos rfl (ev_bind (same01_is _ (by omega)) (ev_pos rfl (ev_pos rfl (ev_bind (same11_is _ _ (by omega)) (ev_pos rfl (ev_pos rfl (ev_bind lives_ (Ev.now _)))))))))))))
end Go.Proofs.Ytkiokimpblimcaa.Pure
