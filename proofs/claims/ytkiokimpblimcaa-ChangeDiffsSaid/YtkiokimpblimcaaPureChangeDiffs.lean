/- ChangeDiffs: what makes any text of any other one is what the document says. -/
import Derived.Test.YtkiokimpblimcaaChangeDiffsChange
namespace Go.Proofs.Ytkiokimpblimcaa.Pure
open Go.RowKit Go.Proofs.YtkiokimpblimcaaW.PrintWords Go.Proofs.YtkiokimpblimcaaW.PrintLast Go.Proofs.YtkiokimpblimcaaW.PrintMore
open Go.Proofs.Ytkiokimpblimcaa.PChangeDiffs Go.Proofs.Ytkiokimpblimcaa.Utf Go.Proofs.Ytkiokimpblimcaa.ChangeDiffsUtf Go.Proofs.Ytkiokimpblimcaa.ChangeDiffsChange

theorem rvalid_ (s : ByteArray) {l : List Int} (h : Ev (fun k => calamusref03_Split.f k s) l) : Ev (fun k => calamusref03_Valid.f k s) (decide ((l.length : Int) > 0)) := by
  unfold calamusref03_Valid.f
  exact ev_bind h (Ev.now _)
theorem rvalid_no_ {s : ByteArray} (hs : s.size ≤ 3000) (h : ¬ Val (bytesOf s)) : Ev (fun k => calamusref03_Valid.f k s) false := by
  have := rvalid_ s (split_no (by omega) h)
  rwa [decide_eq_false (by simp)] at this
theorem rvalid_yes_ {s : ByteArray} (hs : s.size ≤ 3000) {rs : List (List Int)} (h : All rs) (e : bytesOf s = rs.flatten) : Ev (fun k => calamusref03_Valid.f k s) true := by
  have := rvalid_ s (split_yes (by omega) h e)
  rwa [decide_eq_true (by rw [cum_length]; omega)] at this
theorem diffs_ (s t : ByteArray) (hs : s.size ≤ 3000) (ht : t.size ≤ 3000) : ∃ (n : Int) (o m o' m' : ByteArray), Ev (fun k => change_Diff.f k s t) (n, o, m) ∧ Ev (fun k => calamusref08_Diff.f k s t) (n, o', m') ∧ bytesOf o = bytesOf o' ∧ bytesOf m = bytesOf m' := by
  have jt : Ev (fun k => calamusref08_Diff.j0 k s t true) (0, (⟨#[]⟩ : ByteArray), (⟨#[]⟩ : ByteArray)) := by
    refine ev_off 1 ?_
    simp only [calamusref08_Diff.j0]
    exact ev_pos (by simp) (Ev.now _)
  by_cases h0 : s = t
  · refine ⟨_, _, _, _, _, diff_none (.inl h0), ?_, rfl, rfl⟩
    unfold calamusref08_Diff.f
    exact ev_pos ((toList_inj s t).2 h0) jt
  by_cases h1 : Val (bytesOf s)
  · by_cases h2 : Val (bytesOf t)
    · obtain ⟨rs, hrs, es⟩ := h1
      obtain ⟨ts, hts, et⟩ := h2
      obtain ⟨p, a, b, rfl, rfl, hn⟩ := common_head rs ts
      obtain ⟨q, u, v, ea, eb, hl⟩ := common_last a b
      obtain ⟨o, m, e1, e2, e3⟩ := diff_some hs ht h0 hrs hts es et hn ea eb hl
      obtain ⟨x, x1, x2⟩ := runes_is hs hrs es
      obtain ⟨y, y1, y2⟩ := runes_is ht hts et
      have fx := flat_len _ hrs
      have fy := flat_len _ hts
      rw [← es, bytes_len] at fx
      rw [← et, bytes_len] at fy
      have lx : x.length = (p ++ a).length := by rw [← bl_len, x2]
      have ly : y.length = (p ++ b).length := by rw [← bl_len, y2]
      obtain ⟨o', m', f1, f2, f3⟩ := rdiff_l0 hn ea eb hl x y (by omega) (by omega) x2 y2 (by rw [← es, bytes_len]; exact hs) (by rw [← et, bytes_len]; exact ht) p.length 0 (by omega)
      refine ⟨_, o, m, o', m', e1, ?_, by rw [e2, f2], by rw [e3, f3]⟩
      unfold calamusref08_Diff.f
      refine ev_neg (fun g => h0 ((toList_inj s t).1 g)) (ev_bind (rvalid_yes_ hs hrs es) (ev_pos rfl (ev_bind (rvalid_yes_ ht hts et) ?_)))
      refine ev_off 1 ?_
      simp only [calamusref08_Diff.j0]
      exact ev_neg (by simp) (ev_bind x1 (ev_bind y1 f1))
    · refine ⟨_, _, _, _, _, diff_none (.inr (.inr h2)), ?_, rfl, rfl⟩
      obtain ⟨rs, hrs, es⟩ := h1
      unfold calamusref08_Diff.f
      exact ev_neg (fun g => h0 ((toList_inj s t).1 g)) (ev_bind (rvalid_yes_ hs hrs es) (ev_pos rfl (ev_bind (rvalid_no_ ht h2) jt)))
  · refine ⟨_, _, _, _, _, diff_none (.inr (.inl h1)), ?_, rfl, rfl⟩
    unfold calamusref08_Diff.f
    exact ev_neg (fun g => h0 ((toList_inj s t).1 g)) (ev_bind (rvalid_no_ hs h1) (ev_neg (by simp) jt))
theorem ChangeDiffs : calamuslaw08_ChangeDiffs.Pure := by
  intro s t hs ht
  refine Ev.rounds (g := fun k => calamuslaw08_ChangeDiffs.f k s t) ?_
  have jt : Ev (fun k => calamuslaw08_ChangeDiffs.j0 k s t true) true := by
    refine ev_off 1 ?_
    simp only [calamuslaw08_ChangeDiffs.j0]
    exact ev_pos (by simp) (ev_bind lives_ (Ev.now _))
  unfold calamuslaw08_ChangeDiffs.f
  by_cases h1 : (s.size : Int) > 3000
  · exact ev_pos h1 jt
  refine ev_neg h1 ?_
  by_cases h2 : (t.size : Int) > 3000
  · rw [decide_eq_true h2]; exact jt
  rw [decide_eq_false h2]
  obtain ⟨n, o, m, o', m', e1, e2, e3, e4⟩ := diffs_ s t (by omega) (by omega)
  obtain rfl := bytes_inj e3
  obtain rfl := bytes_inj e4
  refine ev_off 1 ?_
  simp only [calamuslaw08_ChangeDiffs.j0]
  exact ev_neg (by simp) (ev_bind e1 (ev_bind e2 (ev_pos (by simp) (ev_bind lives_ (Ev.now _)))))
end Go.Proofs.Ytkiokimpblimcaa.Pure
