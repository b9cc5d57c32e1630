/- The law TreeAdds, over the functions alone: whether any tree may be, and what it is with any node more; when two are the same. Conditions: none but the row's own. -/
import Derived.Test.YtkiokimpblimcaaTreeAddsTree
namespace Go.Proofs.Ytkiokimpblimcaa.Pure
open Go.RowKit Go.Proofs.YtkiokimpblimcaaW.PrintWords Go.Proofs.YtkiokimpblimcaaW.PrintLast Go.Proofs.YtkiokimpblimcaaW.PrintMore
open Go.Proofs.Ytkiokimpblimcaa.PTreeAdds Go.Proofs.Ytkiokimpblimcaa.TreeAddsTree Go.Proofs.Ytkiokimpblimcaa.Open
set_option linter.unusedVariables false
theorem two_l0 (xs ys : List S69) (c c' : Int) (hn : xs.length ≤ 1000000000000) (hl : xs.length = ys.length) (d : Nat) : ∀ i : Nat, i + d = xs.length →
  ∃ b, Ev (fun k => api_Node_83.l0 k xs ys (xs.length : Int) (i : Int)) b ∧ Ev (fun k => calamusref11_Same.l0 k (i : Int) xs c ys c') b := by
 induction d with
 | zero =>
  intro i hi
  refine ⟨true, ev_off 1 ?_, ev_off 1 ?_⟩
  ·simp only [api_Node_83.l0]
   exact ev_neg (by omega) (Ev.now _)
  ·simp only [calamusref11_Same.l0]
   exact ev_neg (by omega) (Ev.now _)
 | succ d ih =>
  intro i hi
  have e1 : wrap64 ((i : Int) + 1) = ((i + 1 : Nat) : Int) := by rw [wrap_id (by omega) (by omega)]; rfl
  generalize hq : (!(((rd_T69 xs (i : Int)).f0) == ((rd_T69 ys (i : Int)).f0)) || (!(((rd_T69 xs (i : Int)).f1) == ((rd_T69 ys (i : Int)).f1)) || (!(((rd_T69 xs (i : Int)).f2) == ((rd_T69 ys (i : Int)).f2)) || (!(((rd_T69 xs (i : Int)).f3) == ((rd_T69 ys (i : Int)).f3)) || ((!(((rd_T69 xs (i : Int)).f4.f0) == ((rd_T69 ys (i : Int)).f4.f0)) || (!((((rd_T69 xs (i : Int)).f4.f1).toList) == (((rd_T69 ys (i : Int)).f4.f1).toList)) || (!((((rd_T69 xs (i : Int)).f4.f2).toList) == (((rd_T69 ys (i : Int)).f4.f2).toList)))))))))) = q
  cases q with
  | true =>
   refine ⟨false, ev_off 1 ?_, ev_off 1 ?_⟩
   ·simp only [api_Node_83.l0, hq]
    exact ev_pos (by omega) (ev_pos (by omega) (ev_pos (by omega) (ev_pos (by omega) (ev_pos trivial (Ev.now _)))))
   ·simp only [calamusref11_Same.l0, hq]
    exact ev_pos (by omega) (ev_pos (by omega) (ev_pos (by omega) (ev_pos trivial (Ev.now _))))
  | false =>
   obtain ⟨b, h1, h2⟩ := ih (i + 1) (by omega)
   refine ⟨b, ev_off 1 ?_, ev_off 1 ?_⟩
   ·simp only [api_Node_83.l0, hq, e1]
    exact ev_pos (by omega) (ev_pos (by omega) (ev_pos (by omega) (ev_pos (by omega) (ev_neg (by simp) h1))))
   ·simp only [calamusref11_Same.l0, hq, e1]
    exact ev_pos (by omega) (ev_pos (by omega) (ev_pos (by omega) (ev_neg (by simp) h2)))
theorem two_is (xs ys : List S69) (c c' : Int) (hn : xs.length ≤ 1000000000000) : ∃ b, Ev (fun k => tree_Same.f k xs c ys c') b ∧ Ev (fun k => calamusref11_Same.f k xs c ys c') b := by
 unfold tree_Same.f calamusref11_Same.f api_Node_83.f
 by_cases h : c = c'
 ·by_cases hl : xs.length = ys.length
  ·obtain ⟨b, h1, h2⟩ := two_l0 xs ys c c' hn hl xs.length 0 (by omega)
   refine ⟨b, ev_pos h (ev_bind (ev_pos (by omega) h1) (Ev.now _)), ev_pos h (ev_off 1 ?_)⟩
   simp only [calamusref11_Same.j0]
   exact ev_neg (by rw [hl]; simp) h2
  ·refine ⟨false, ev_pos h (ev_bind (ev_neg (by omega) (Ev.now _)) (Ev.now _)), ev_pos h (ev_off 1 ?_)⟩
   simp only [calamusref11_Same.j0]
   exact ev_pos (by rw [bne_iff_ne]; omega) (Ev.now _)
 ·refine ⟨false, ev_neg h (Ev.now _), ev_neg h (ev_off 1 ?_)⟩
  simp only [calamusref11_Same.j0]
  exact ev_pos trivial (Ev.now _)
theorem add_is (ns : List S69) (c x y : Int) (a0 : Int) (a1 a2 : ByteArray) (hl : ns.length ≤ 1100) : ∃ r, r.1.length ≤ 1100 ∧ Ev (fun k => tree_Add.f k ns c a0 a1 a2 x y) r ∧ Ev (fun k => calamusref11_Add.f k ns c a0 a1 a2 x y) r := by
 obtain ⟨b, h1, h2, hi⟩ := both_is ns c
 have bad : ∀ q : Bool, Ev (fun k => tree_Add.j0 k x y true a0 a1 a2 ns c q) ([], 0, 1) ∧ Ev (fun k => calamusref11_Add.j0 k x y true ns c a0 a1 a2) ([], 0, 1) := by
  intro q
  refine ⟨ev_off 1 ?_, ev_off 1 ?_⟩
  ·simp only [tree_Add.j0]; exact ev_pos trivial (Ev.now _)
  ·simp only [calamusref11_Add.j0]; exact ev_pos trivial (Ev.now _)
 unfold tree_Add.f calamusref11_Add.f
 cases b with
 | false => exact ⟨([], 0, 1), by simp, ev_bind (open_is h1) (ev_neg (by simp) (bad _).1), ev_bind h2 (ev_neg (by simp) (bad true).2)⟩
 | true =>
  have g := hi.1 rfl
  by_cases hx : x < 0
  ·exact ⟨([], 0, 1), by simp, ev_bind (open_is h1) (ev_pos rfl (ev_pos hx (bad _).1)), ev_bind h2 (ev_pos rfl (ev_pos hx (bad true).2))⟩
  by_cases hy : y < 0
  ·refine ⟨([], 0, 1), by simp, ev_bind (open_is h1) (ev_pos rfl (ev_neg hx ?_)), ev_bind h2 (ev_pos rfl (ev_neg hx ?_))⟩
   ·rw [decide_eq_true hy]; exact (bad _).1
   ·rw [decide_eq_true hy]; exact (bad true).2
  have hlen := right_len g
  have hc := right_cur g
  by_cases hf : ns.length = 1024
  ·refine ⟨([], 0, 8), by simp, ev_bind (open_is h1) (ev_pos rfl (ev_neg hx ?_)), ev_bind h2 (ev_pos rfl (ev_neg hx ?_))⟩
   ·rw [decide_eq_false hy]
    refine ev_off 1 ?_
    simp only [tree_Add.j0]
    exact ev_neg (by simp) (ev_pos (by omega) (Ev.now _))
   ·rw [decide_eq_false hy]
    refine ev_off 1 ?_
    simp only [calamusref11_Add.j0]
    exact ev_neg (by simp) (ev_pos (by omega) (Ev.now _))
  ·let new : S69 := ⟨c, (-1), x, y, (⟨a0, a1, a2⟩ : S24)⟩
   have e : setNext (ns ++ [new]) c.toNat (ns.length : Int) = ns.set c.toNat (⟨(rd_T69 ns c).f0, (ns.length : Int), (rd_T69 ns c).f2, (rd_T69 ns c).f3, (⟨(rd_T69 ns c).f4.f0, (rd_T69 ns c).f4.f1, (rd_T69 ns c).f4.f2⟩ : S24)⟩ : S69) ++ [new] := by
    unfold setNext
    rw [List.set_append_left _ _ (by omega)]
    have hn : nd (ns ++ [new]) c.toNat = rd_T69 ns c := by
     unfold nd rd_T69
     rw [List.getD_eq_getElem?_getD, List.getD_eq_getElem?_getD, List.getElem?_append_left (by omega)]
    rw [hn]
   refine ⟨(setNext (ns ++ [new]) c.toNat (ns.length : Int), (ns.length : Int), 0), by rw [setNext_length]; simp; omega, ev_bind (open_is h1) (ev_pos rfl (ev_neg hx ?_)), ev_bind h2 (ev_pos rfl (ev_neg hx ?_))⟩
   ·rw [decide_eq_false hy, e]
    refine ev_off 1 ?_
    simp only [tree_Add.j0, copy_is ns c (by omega)]
    refine ev_neg (by simp) (ev_neg (by omega) (ev_bind (Ev.now _) (ev_pos (by show (0 : Int) ≤ c; omega) (ev_pos (by show c < (ns.length : Int); omega) (ev_bind (Ev.now _) (ev_pos (by rw [List.length_set]; show ns.length < _; omega) (Ev.now _)))))))
   ·rw [decide_eq_false hy]
    refine ev_off 1 ?_
    simp only [calamusref11_Add.j0]
    have hnew : nd (ns ++ [new]) ns.length = new := by unfold nd; rw [List.getD_eq_getElem?_getD, List.getElem?_append_right (Nat.le_refl _)]; simp
    have q := with_one (ns ++ [new]) 0 (ns.length : Int) ns.length (by simp; omega) (by simp) (by rw [hnew]; exact hc.1) (by rw [hnew]; show c < _; simp; omega)
    rw [hnew] at q
    exact ev_neg (by simp) (ev_neg (by omega) (ev_bind (with_nil ns c 0 (by omega)) (ev_pos (by show ns.length < _; omega) (ev_bind q (Ev.now _)))))
theorem TreeAdds : calamuslaw11_TreeAdds.Pure := by
 intro ns c a0 a1 a2 x y us v _ _ _ _ _ _ _ _ _
 refine Ev.rounds (g := fun k => calamuslaw11_TreeAdds.f k ns c a0 a1 a2 x y us v) ?_
 unfold calamuslaw11_TreeAdds.f
 have lv : Ev (fun k => (calamuslaw11_lives.f k).bind fun t => some t) true := ev_bind lives_ (Ev.now _)
 have big : Ev (fun k => calamuslaw11_TreeAdds.j0 k true ns c a0 a1 a2 x y us v) true := by
  refine ev_off 1 ?_
  simp only [calamuslaw11_TreeAdds.j0]
  exact ev_pos trivial lv
 by_cases h1 : (ns.length : Int) > 1100
 ·exact ev_pos h1 big
 refine ev_neg h1 ?_
 by_cases h2 : (us.length : Int) > 1100
 ·rw [decide_eq_true h2]; exact big
 rw [decide_eq_false h2]
 refine ev_off 1 ?_
 simp only [calamuslaw11_TreeAdds.j0]
 obtain ⟨r, hr, p1, p2⟩ := add_is ns c x y a0 a1 a2 (by omega)
 obtain ⟨b, q1, q2, _⟩ := both_is ns c
 obtain ⟨s, s1, s2⟩ := two_is ns us c v (by omega)
 refine ev_neg (by simp) (ev_bind p1 (ev_bind p2 (ev_bind (ev_bind (open_is q1) (Ev.now _)) (ev_bind q2 (ev_pos (by simp) (ev_bind (same11_is r.1 r.2.1 (by omega)) (ev_pos rfl (ev_pos rfl (ev_bind s1 (ev_bind s2 (ev_pos (by simp) (ev_bind (same_refl ns c (by omega)) (ev_pos rfl (ev_bind (Ev.now _) (ev_bind (Ev.now _) (ev_bind (same11_is _ _ (by simp)) (ev_pos rfl lv)))))))))))))))))
end Go.Proofs.Ytkiokimpblimcaa.Pure
