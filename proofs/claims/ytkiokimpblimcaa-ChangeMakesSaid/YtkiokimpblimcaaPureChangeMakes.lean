/- ChangeMakes: what makes one text of another one fits, makes it, turns, and is as short as can be. -/
import Derived.Test.YtkiokimpblimcaaChangeMakesChange
namespace Go.Proofs.Ytkiokimpblimcaa.Pure
open Go.RowKit Go.Proofs.YtkiokimpblimcaaW.PrintWords Go.Proofs.YtkiokimpblimcaaW.PrintLast Go.Proofs.YtkiokimpblimcaaW.PrintMore
open Go.Proofs.Ytkiokimpblimcaa.PChangeMakes Go.Proofs.Ytkiokimpblimcaa.Utf Go.Proofs.Ytkiokimpblimcaa.ChangeMakesUtf Go.Proofs.Ytkiokimpblimcaa.ChangeMakesChange

theorem lens_ {s : ByteArray} {p u q : List (List Int)} (es : bytesOf s = (p ++ (u ++ q)).flatten) : s.size = p.flatten.length + u.flatten.length + q.flatten.length := by
  rw [← bytes_len s, es]; simp; omega
theorem fits_yes {s o n : ByteArray} {p u v q : List (List Int)} (hr : All (p ++ (u ++ q))) (hv : All v) (es : bytesOf s = (p ++ (u ++ q)).flatten) (eo : bytesOf o = u.flatten) (en : bytesOf n = v.flatten) :
    Ev (fun k => change_Fits.f k s (p.flatten.length : Int) o n) true := by
  have hl := lens_ es
  have ho : o.size = u.flatten.length := by rw [← bytes_len, eo]
  have hp := place_yes (at_ := (p.flatten.length : Int)) (xs := p) (ys := u ++ q) hr es ⟨rfl, rfl⟩
  have hsz : (s.extract p.flatten.length s.size).size = s.size - p.flatten.length := by rw [ByteArray.size_extract]; omega
  have pre : strings_HasPrefix.f (s.extract p.flatten.length s.size) o = some true := by
    unfold strings_HasPrefix.f stringslite_HasPrefix.f
    rw [hsz, if_pos (by omega), if_pos (by omega), if_pos (by omega), Int.toNat_natCast, Option.bind_some]
    congr 1
    have ex : (s.extract p.flatten.length s.size).extract 0 o.size = o := by
      apply bytes_inj
      rw [bytes_extract, bytes_drop, es, eo, ho, List.flatten_append, List.flatten_append, List.drop_left, List.drop_zero, Nat.sub_zero, List.take_left]
    rw [ex]; simp
  unfold change_Fits.f
  refine ev_bind hp (ev_pos rfl (ev_bind (valid_yes ⟨u, hr.right.left, eo⟩) (ev_pos rfl (ev_bind (valid_yes ⟨v, hv, en⟩) (ev_pos rfl (ev_pos (by omega) (ev_pos (by omega) ?_)))))))
  simp only [Int.toNat_natCast, pre]
  exact Ev.now _
theorem do_yes {s t o n : ByteArray} {p u v q : List (List Int)} (hs : s.size ≤ 3000) (ht : t.size ≤ 3000) (hr : All (p ++ (u ++ q))) (hv : All v) (es : bytesOf s = (p ++ (u ++ q)).flatten) (et : bytesOf t = (p ++ (v ++ q)).flatten) (eo : bytesOf o = u.flatten) (en : bytesOf n = v.flatten) :
    Ev (fun k => change_Do.f k s ([(⟨(p.flatten.length : Int), o, n⟩ : S24)] : List S24)) (t, 0) := by
  have hl := lens_ es
  have hl' := lens_ et
  have ho : o.size = u.flatten.length := by rw [← bytes_len, eo]
  have hn : n.size = v.flatten.length := by rw [← bytes_len, en]
  have ew : wrap64 ((p.flatten.length : Int) + (o.size : Int)) = ((p.flatten.length + o.size : Nat) : Int) := by rw [wrap_id (by omega) (by omega)]; omega
  have s1 : (s.extract 0 p.flatten.length).size = p.flatten.length := by rw [ByteArray.size_extract]; omega
  have s2 : (s.extract (p.flatten.length + o.size) s.size).size = s.size - (p.flatten.length + o.size) := by rw [ByteArray.size_extract]; omega
  have s3 : (s.extract 0 p.flatten.length ++ n).size = p.flatten.length + n.size := by rw [ByteArray.size_append, s1]
  have r1 : s.extract 0 p.flatten.length ++ n ++ s.extract (p.flatten.length + o.size) s.size = t := by
    apply bytes_inj
    rw [bytes_append, bytes_append, bytes_extract, bytes_drop, es, et, en, ho, List.drop_zero, Nat.sub_zero]
    simp only [List.flatten_append]
    rw [List.take_left, ← List.append_assoc p.flatten u.flatten q.flatten, List.drop_left' (by simp), List.append_assoc]
  have one : Ev (fun k => change_one.f k s (p.flatten.length : Int) o n) (t, 0) := by
    unfold change_one.f
    simp only [ew, Int.toNat_natCast, r1]
    exact ev_bind (fits_yes hr hv es eo en) (ev_pos rfl (ev_pos (by omega) (ev_pos (by omega) (ev_pos (by omega) (ev_pos (by omega) (ev_pos (by omega) (ev_pos (by omega) (ev_neg (by omega) (Ev.now _)))))))))
  have w1 : wrap64 (0 + 1) = 1 := wrap_id (by omega) (by omega)
  unfold change_Do.f
  refine ev_off 1 ?_
  simp only [change_Do.l0, w1]
  refine ev_pos (by simp) (ev_pos (by simp) (ev_pos (by simp) (ev_bind one (ev_pos rfl ?_))))
  refine ev_off 1 ?_
  simp only [change_Do.l0]
  exact ev_neg (by simp) (Ev.now _)
theorem first_rune {o : ByteArray} {u : List (List Int)} (hs : o.size ≤ 3000) (h : All u) (e : bytesOf o = u.flatten) : ∃ x, Ev (fun k => utf_Rune.f k o 0) x ∧ bytesOf x = u.headD [] := by
  cases u with
  | nil => exact ⟨_, rune_none (next_end h e ⟨rfl, rfl⟩), rfl⟩
  | cons r u =>
    refine ⟨_, rune_yes (by omega) h e (xs := []) (ys := u) (r := r) ⟨rfl, rfl⟩, ?_⟩
    rw [bytes_extract, e]
    simp
theorem last_rune {o : ByteArray} {u : List (List Int)} (hs : o.size ≤ 3000) (h : All u) (e : bytesOf o = u.flatten) : ∃ n x, Ev (fun k => utf_Prev.f k o (o.size : Int)) n ∧ Ev (fun k => utf_Rune.f k o n) x ∧ bytesOf x = u.getLast?.getD [] := by
  rcases List.eq_nil_or_concat u with rfl | ⟨us, r, rfl⟩
  · have h0 : o.size = 0 := by rw [← bytes_len, e]; rfl
    refine ⟨-1, (⟨#[]⟩ : ByteArray), ?_, rune_none (next_no (place_not h e ?_)), rfl⟩
    · rw [h0]
      exact prev_zero (place_yes (xs := []) (ys := []) h e ⟨rfl, rfl⟩)
    · rintro xs ys ⟨_, h2⟩; omega
  · have hl : o.size = us.flatten.length + r.length := by rw [← bytes_len, e]; simp
    have en : (o.size : Int) - r.length = us.flatten.length := by omega
    refine ⟨_, _, prev_yes (xs := us) (ys := []) (r := r) (by omega) h e ⟨by simp, by rw [hl]; simp⟩, rune_yes (xs := us) (ys := []) (r := r) (by omega) h e ⟨by simp, en⟩, ?_⟩
    rw [bytes_extract, e, en, Int.toNat_natCast, show ((us.flatten.length : Int) + (r.length : Int)).toNat = us.flatten.length + r.length from by omega]
    simp
theorem heads_ {u v : List (List Int)} (hu : All u) (hv : All v) (hn : NoHead u v) {x y : ByteArray} (ex : bytesOf x = u.headD []) (ey : bytesOf y = v.headD []) (h : x = y) : bytesOf x = [] ∧ bytesOf y = [] := by
  subst h
  cases u with
  | nil => exact ⟨ex, ex⟩
  | cons r u => cases v with
    | nil => exact ⟨ey, ey⟩
    | cons r' v =>
      refine absurd ⟨rfl, ?_⟩ (hn r u v)
      have : r' = r := by simpa using ey.symm.trans ex
      rw [this]
theorem lasts_ {u v : List (List Int)} (hn : NoLast u v) {x y : ByteArray} (ex : bytesOf x = u.getLast?.getD []) (ey : bytesOf y = v.getLast?.getD []) (h : x = y) : bytesOf x = [] ∧ bytesOf y = [] := by
  subst h
  rcases List.eq_nil_or_concat u with rfl | ⟨us, r, rfl⟩
  · exact ⟨ex, ex⟩
  · rcases List.eq_nil_or_concat v with rfl | ⟨vs, r', rfl⟩
    · exact ⟨ey, ey⟩
    · refine absurd ⟨by simp, ?_⟩ (hn r us vs)
      have : r' = r := by simpa using ey.symm.trans ex
      simp [this]
theorem nolast_symm {u v : List (List Int)} (h : NoLast u v) : NoLast v u := fun x xs ys g => h x ys xs ⟨g.2, g.1⟩
theorem nohead_symm {u v : List (List Int)} (h : NoHead u v) : NoHead v u := fun x xs ys g => h x ys xs ⟨g.2, g.1⟩
theorem j0_yes {s t o n : ByteArray} {p u v q : List (List Int)} {r : Bool} (hs : s.size ≤ 3000) (ht : t.size ≤ 3000) (ha : All (p ++ (u ++ q))) (hb : All (p ++ (v ++ q))) (es : bytesOf s = (p ++ (u ++ q)).flatten) (et : bytesOf t = (p ++ (v ++ q)).flatten) (eo : bytesOf o = u.flatten) (en : bytesOf n = v.flatten)
    (d1 : Ev (fun k => change_Diff.f k s t) ((p.flatten.length : Int), o, n)) (d2 : Ev (fun k => change_Diff.f k t s) ((p.flatten.length : Int), n, o)) (h : Ev (fun k => calamuslaw08_ChangeMakes.j1 k s t false (p.flatten.length : Int) o n) r) :
    Ev (fun k => calamuslaw08_ChangeMakes.j0 k s t false) r := by
  refine ev_off 1 ?_
  simp only [calamuslaw08_ChangeMakes.j0]
  refine ev_neg (by simp) (ev_bind d1 ?_)
  refine ev_bind (do_yes hs ht ha hb.right.left es et eo en) (ev_bind (a := ((p.flatten.length : Int), n, o)) (Ev.now _) ?_)
  refine ev_bind (do_yes ht hs hb ha.right.left et es en eo) (ev_pos rfl (ev_pos rfl (ev_pos rfl (ev_pos rfl ?_))))
  refine ev_bind (fits_yes ha hb.right.left es eo en) (ev_pos rfl (ev_bind d2 (ev_bind (a := ((p.flatten.length : Int), n, o)) (Ev.now _) ?_)))
  simpa using h
theorem ends_ {g : Nat → Option Bool} {x y : ByteArray} (h : x = y → bytesOf x = [] ∧ bytesOf y = []) (hg : Ev g true) : Ev (fun k => if x.toList = y.toList then (if x.toList = ([] : List UInt8) then (if y.toList = ([] : List UInt8) then g k else some false) else some false) else g k) true := by
  by_cases e : x = y
  · exact ev_pos ((toList_inj x y).2 e) (ev_pos ((toList_nil x).2 (h e).1) (ev_pos ((toList_nil y).2 (h e).2) hg))
  · exact ev_neg (fun h => e ((toList_inj x y).1 h)) hg
theorem ChangeMakes : calamuslaw08_ChangeMakes.Pure := by
  intro s t hs ht
  refine Ev.rounds (g := fun k => calamuslaw08_ChangeMakes.f k s t) ?_
  have lv : Ev (fun k => (calamuslaw08_lives.f k).bind fun t144 => some t144) true := ev_bind lives_ (Ev.now _)
  have jt : Ev (fun k => calamuslaw08_ChangeMakes.j0 k s t true) true := by
    refine ev_off 1 ?_
    simp only [calamuslaw08_ChangeMakes.j0]
    exact ev_pos (by simp) lv
  unfold calamuslaw08_ChangeMakes.f
  by_cases h1 : (s.size : Int) > 2000
  · exact ev_pos h1 jt
  refine ev_neg h1 ?_
  by_cases h2 : (t.size : Int) > 2000
  · exact ev_pos h2 jt
  refine ev_neg h2 ?_
  by_cases v1 : ¬ Val (bytesOf s)
  · exact ev_bind (valid_no v1) (ev_neg (by simp) jt)
  replace v1 := Classical.not_not.mp v1
  refine ev_bind (valid_yes v1) (ev_pos rfl ?_)
  by_cases v2 : ¬ Val (bytesOf t)
  · exact ev_bind (valid_no v2) jt
  replace v2 := Classical.not_not.mp v2
  refine ev_bind (valid_yes v2) ?_
  obtain ⟨rs, hrs, es⟩ := v1
  by_cases h0 : s = t
  · subst h0
    refine j0_yes (p := []) (u := []) (v := []) (q := rs) (by omega) (by omega) hrs hrs es es bytes_empty bytes_empty (diff_none (.inl rfl)) (diff_none (.inl rfl)) ?_
    refine ev_off 1 ?_
    simp only [calamuslaw08_ChangeMakes.j1]
    refine ev_neg (by simp) (ev_pos trivial (ev_pos ?_ lv))
    simp [(toList_nil (⟨#[]⟩ : ByteArray)).2 bytes_empty]
  obtain ⟨ts, hts, et⟩ := v2
  obtain ⟨p, a, b, rfl, rfl, hn⟩ := common_head rs ts
  obtain ⟨q, u, v, rfl, rfl, hl⟩ := common_last a b
  obtain ⟨o, n, e1, e2, e3⟩ := diff_some (by omega) (by omega) h0 hrs hts es et hn rfl rfl hl
  obtain ⟨n', o', f1, f2, f3⟩ := diff_some (by omega) (by omega) (fun e => h0 e.symm) hts hrs et es (nohead_symm hn) rfl rfl (nolast_symm hl)
  obtain rfl : n' = n := bytes_inj (f2.trans e3.symm)
  obtain rfl : o' = o := bytes_inj (f3.trans e2.symm)
  refine j0_yes (by omega) (by omega) hrs hts es et e2 e3 e1 f1 ?_
  have so : o'.size ≤ 3000 := by have := lens_ es; rw [← bytes_len o', e2]; omega
  have sn : n'.size ≤ 3000 := by have := lens_ et; rw [← bytes_len n', e3]; omega
  have hu := hrs.right.left
  have hv := hts.right.left
  have hh : NoHead u v := by
    rintro x xs ys ⟨rfl, rfl⟩
    exact hn x (xs ++ q) (ys ++ q) ⟨rfl, rfl⟩
  obtain ⟨x, x1, x2⟩ := first_rune so hu e2
  obtain ⟨y, y1, y2⟩ := first_rune sn hv e3
  obtain ⟨i, c, i1, c1, c2⟩ := last_rune so hu e2
  obtain ⟨j, d, j1, d1, d2⟩ := last_rune sn hv e3
  refine ev_off 1 ?_
  simp only [calamuslaw08_ChangeMakes.j1]
  refine ev_neg (by simp) (ev_neg (fun g => h0 ((toList_inj s t).1 g)) ?_)
  refine ev_bind x1 (ev_bind y1 (ev_bind i1 (ev_bind c1 (ev_bind j1 (ev_bind d1 ?_)))))
  exact ends_ (heads_ hu hv hh x2 y2) (ends_ (lasts_ hl c2 d2) lv)
end Go.Proofs.Ytkiokimpblimcaa.Pure
