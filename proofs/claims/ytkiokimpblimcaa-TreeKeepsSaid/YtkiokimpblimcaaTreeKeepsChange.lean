/- What the printed functions of layer 8, the program's and the document's, tell.
  Template: Ytkiokimpblimcaa the seat's name, TreeKeeps the law's key; in pieces. -/
import Derived.Test.YtkiokimpblimcaaTreeKeepsUtf
namespace Go.Proofs.Ytkiokimpblimcaa.TreeKeepsChange
open Go.RowKit Go.Proofs.YtkiokimpblimcaaW.PrintWords Go.Proofs.YtkiokimpblimcaaW.PrintLast Go.Proofs.YtkiokimpblimcaaW.PrintMore
open Go.Proofs.Ytkiokimpblimcaa.PTreeKeeps Go.Proofs.Ytkiokimpblimcaa.Utf Go.Proofs.Ytkiokimpblimcaa.TreeKeepsUtf Go.Proofs.Ytkiokimpblimcaa.Open
set_option linter.unusedVariables false
set_option linter.unusedSimpArgs false

def NoHead (a b : List (List Int)) : Prop := ∀ x xs ys, ¬ (a = x :: xs ∧ b = x :: ys)
def NoLast (a b : List (List Int)) : Prop := ∀ x xs ys, ¬ (a = xs ++ [x] ∧ b = ys ++ [x])
theorem common_head (ms : List (List Int)) : ∀ ns, ∃ p a b, ms = p ++ a ∧ ns = p ++ b ∧ NoHead a b := by
 induction ms with
 | nil => intro ns; exact ⟨[], [], ns, rfl, rfl, fun x xs ys h => by simp at h⟩
 | cons x ms ih =>
  intro ns
  rcases ns with _ | ⟨y, ns⟩
  ·exact ⟨[], x :: ms, [], rfl, rfl, fun z xs ys h => by simp at h⟩
  ·by_cases h : x = y
   ·subst h
    obtain ⟨p, a, b, rfl, rfl, hn⟩ := ih ns
    exact ⟨x :: p, a, b, rfl, rfl, hn⟩
   ·exact ⟨[], x :: ms, y :: ns, rfl, rfl, fun z xs ys hh => by simp at hh; exact h (hh.1.1.trans hh.2.1.symm)⟩
theorem common_last (ms ns : List (List Int)) : ∃ s a b, ms = a ++ s ∧ ns = b ++ s ∧ NoLast a b := by
 obtain ⟨p, a, b, e1, e2, hn⟩ := common_head ms.reverse ns.reverse
 refine ⟨p.reverse, a.reverse, b.reverse, by rw [← List.reverse_append, ← e1, List.reverse_reverse], by rw [← List.reverse_append, ← e2, List.reverse_reverse], fun x xs ys h => ?_⟩
 refine hn x xs.reverse ys.reverse ⟨?_, ?_⟩
 ·rw [← List.reverse_reverse a, h.1]; simp
 ·rw [← List.reverse_reverse b, h.2]; simp
theorem head_most {p a b q a' b' : List (List Int)} (hn : NoHead a b) (h1 : p ++ a = q ++ a') (h2 : p ++ b = q ++ b') : q.length ≤ p.length := by
 rcases Nat.lt_or_ge p.length q.length with h | h
 ·exfalso
  have : p <+: q := List.prefix_of_prefix_length_le (l₃ := p ++ a) ⟨a, rfl⟩ ⟨a', h1.symm⟩ (by omega)
  obtain ⟨z, rfl⟩ := this
  rcases z with _ | ⟨x, z⟩
  ·simp at h
  ·rw [List.append_assoc] at h1 h2
   exact hn x (z ++ a') (z ++ b') ⟨List.append_cancel_left h1, List.append_cancel_left h2⟩
 ·exact h
theorem last_most {s a b q a' b' : List (List Int)} (hn : NoLast a b) (h1 : a ++ s = a' ++ q) (h2 : b ++ s = b' ++ q) : q.length ≤ s.length := by
 have := head_most (p := s.reverse) (a := a.reverse) (b := b.reverse) (q := q.reverse) (a' := a'.reverse) (b' := b'.reverse) (fun x xs ys h => by
  refine hn x xs.reverse ys.reverse ⟨?_, ?_⟩
  ·rw [← List.reverse_reverse a, h.1]; simp
  ·rw [← List.reverse_reverse b, h.2]; simp) (by rw [← List.reverse_append, h1, List.reverse_append]) (by rw [← List.reverse_append, h2, List.reverse_append])
 simpa using this
theorem flat_le {p q r : List (List Int)} (h : q = p ++ r) : p.flatten.length ≤ q.flatten.length := by subst h; simp
theorem front_l1 {s t : ByteArray} {p a b : List (List Int)} (hs : s.size ≤ 3000) (ht : t.size ≤ 3000) (ha : All (p ++ a)) (hb : All (p ++ b)) (es : bytesOf s = (p ++ a).flatten) (et : bytesOf t = (p ++ b).flatten) (hn : NoHead a b) (d : Nat) :
  ∀ m : Nat, m = p.flatten.length + d → (bytesOf s).take m = (bytesOf t).take m → m ≤ s.size → m ≤ t.size → Ev (fun k => change_front.l1 k s t m) (p.flatten.length : Int) := by
 induction d with
 | zero =>
  intro m hm _ _ _
  rw [Nat.add_zero] at hm
  subst hm
  refine ev_off 1 ?_
  simp only [change_front.l1]
  exact ev_bind (place_yes ha es ⟨rfl, rfl⟩) (ev_pos rfl (ev_bind (place_yes hb et ⟨rfl, rfl⟩) (ev_pos rfl (Ev.now _))))
 | succ d ih =>
  intro m hm hq hms hmt
  have q := ih (m - 1) (by omega) (by
   have := congrArg (List.take (m - 1)) hq
   rwa [List.take_take, List.take_take, Nat.min_eq_left (by omega)] at this) (by omega) (by omega)
  have ew : wrap64 ((m : Int) - 1) = ((m - 1 : Nat) : Int) := by rw [wrap_id (by omega) (by omega)]; omega
  refine ev_off 1 ?_
  simp only [change_front.l1, ew]
  by_cases h1 : ∃ xs ys, Is (p ++ a) (m : Int) xs ys
  ·obtain ⟨xs, ys, i1⟩ := h1
   refine ev_bind (place_yes ha es i1) (ev_pos rfl ?_)
   by_cases h2 : ∃ xs ys, Is (p ++ b) (m : Int) xs ys
   ·exfalso
    obtain ⟨xs', ys', i2⟩ := h2
    have e1 : (bytesOf s).take m = xs.flatten := by rw [es, i1.1, List.flatten_append, show m = xs.flatten.length from by have := i1.2; omega, List.take_left]
    have e2 : (bytesOf t).take m = xs'.flatten := by rw [et, i2.1, List.flatten_append, show m = xs'.flatten.length from by have := i2.2; omega, List.take_left]
    have hx : xs = xs' := runes_inj (by have := ha; rw [i1.1] at this; exact this.left) (by have := hb; rw [i2.1] at this; exact this.left) (by rw [← e1, ← e2, hq])
    subst hx
    have hle := head_most hn i1.1 i2.1
    have hpx : xs <+: p := List.prefix_of_prefix_length_le (l₃ := p ++ a) ⟨ys, i1.1.symm⟩ ⟨a, rfl⟩ hle
    obtain ⟨z, hz⟩ := hpx
    have := flat_le hz.symm
    have := i1.2
    omega
   ·exact ev_bind (place_not hb et (fun xs ys i => h2 ⟨xs, ys, i⟩)) (ev_neg (by simp) q)
  ·exact ev_bind (place_not ha es (fun xs ys i => h1 ⟨xs, ys, i⟩)) (ev_neg (by simp) q)
theorem front_l0 {s t : ByteArray} {p a b : List (List Int)} (hs : s.size ≤ 3000) (ht : t.size ≤ 3000) (ha : All (p ++ a)) (hb : All (p ++ b)) (es : bytesOf s = (p ++ a).flatten) (et : bytesOf t = (p ++ b).flatten) (hn : NoHead a b) (d : Nat) :
  ∀ i : Nat, i + d = s.size → i ≤ t.size → (bytesOf s).take i = (bytesOf t).take i → Ev (fun k => change_front.l0 k s t i) (p.flatten.length : Int) := by
 have hls := bytes_len s
 have hlt := bytes_len t
 have hp1 : p.flatten.length ≤ s.size := by rw [← hls, es]; exact flat_le rfl
 have hp2 : p.flatten.length ≤ t.size := by rw [← hlt, et]; exact flat_le rfl
 have done : ∀ i : Nat, p.flatten.length ≤ i → i ≤ s.size → i ≤ t.size → (bytesOf s).take i = (bytesOf t).take i → Ev (fun k => change_front.j1 k s t i) (p.flatten.length : Int) := by
  intro i h1 h2 h3 h4
  refine ev_off 1 ?_
  simp only [change_front.j1]
  exact front_l1 hs ht ha hb es et hn (i - p.flatten.length) i (by omega) h4 h2 h3
 have pre : ∀ i : Nat, i < p.flatten.length → bt s (i : Int) = bt t (i : Int) := by
  intro i hi
  rw [bytes_get, bytes_get, es, et, Int.toNat_natCast, List.flatten_append, List.flatten_append, List.getD_eq_getElem?_getD, List.getD_eq_getElem?_getD, List.getElem?_append_left hi, List.getElem?_append_left hi]
 induction d with
 | zero =>
  intro i hi hit hq
  refine ev_off 1 ?_
  simp only [change_front.l0]
  exact ev_neg (by omega) (done i (by omega) (by omega) hit hq)
 | succ d ih =>
  intro i hi hit hq
  refine ev_off 1 ?_
  simp only [change_front.l0]
  refine ev_pos (by omega) ?_
  by_cases h1 : i < t.size
  ·refine ev_pos (by omega) (ev_pos (by omega) ?_)
   by_cases h2 : bt s (i : Int) = bt t (i : Int)
   ·refine ev_pos h2 ?_
    have ew : wrap64 ((i : Int) + 1) = ((i + 1 : Nat) : Int) := by rw [wrap_id (by omega) (by omega)]; rfl
    simp only [ew]
    refine ih (i + 1) (by omega) (by omega) ?_
    rw [List.take_add_one, List.take_add_one, hq]
    rw [bytes_get, bytes_get, Int.toNat_natCast, List.getD_eq_getElem?_getD, List.getD_eq_getElem?_getD, List.getElem?_eq_getElem (by omega), List.getElem?_eq_getElem (by omega)] at h2
    rw [List.getElem?_eq_getElem (by omega), List.getElem?_eq_getElem (by omega)]
    simp only [Option.getD_some] at h2
    rw [h2]
   ·refine ev_neg h2 (done i ?_ (by omega) hit hq)
    rcases Nat.lt_or_ge i p.flatten.length with h | h
    ·exact absurd (pre i h) h2
    ·exact h
  ·exact ev_neg (by omega) (done i (by omega) (by omega) hit hq)
theorem front_is {s t : ByteArray} {p a b : List (List Int)} (hs : s.size ≤ 3000) (ht : t.size ≤ 3000) (ha : All (p ++ a)) (hb : All (p ++ b)) (es : bytesOf s = (p ++ a).flatten) (et : bytesOf t = (p ++ b).flatten) (hn : NoHead a b) :
  Ev (fun k => change_front.f k s t) (p.flatten.length : Int) := front_l0 hs ht ha hb es et hn s.size 0 (by omega) (by omega) rfl
theorem back_l1 {s t : ByteArray} {q a b : List (List Int)} (hs : s.size ≤ 3000) (ht : t.size ≤ 3000) (ha : All (a ++ q)) (hb : All (b ++ q)) (es : bytesOf s = (a ++ q).flatten) (et : bytesOf t = (b ++ q).flatten) (hn : NoLast a b) (d : Nat) :
  ∀ m : Nat, m = q.flatten.length + d → (bytesOf s).drop (s.size - m) = (bytesOf t).drop (t.size - m) → m ≤ s.size → m ≤ t.size → Ev (fun k => change_back.l1 k s t m) (q.flatten.length : Int) := by
 have hls : s.size = a.flatten.length + q.flatten.length := by rw [← bytes_len s, es]; simp
 have hlt : t.size = b.flatten.length + q.flatten.length := by rw [← bytes_len t, et]; simp
 induction d with
 | zero =>
  intro m hm _ _ _
  rw [Nat.add_zero] at hm
  subst hm
  have w1 : wrap64 ((s.size : Int) - (q.flatten.length : Nat)) = (a.flatten.length : Nat) := by rw [wrap_id (by omega) (by omega)]; omega
  have w2 : wrap64 ((t.size : Int) - (q.flatten.length : Nat)) = (b.flatten.length : Nat) := by rw [wrap_id (by omega) (by omega)]; omega
  refine ev_off 1 ?_
  simp only [change_back.l1, w1, w2]
  exact ev_bind (place_yes ha es ⟨rfl, rfl⟩) (ev_pos rfl (ev_bind (place_yes hb et ⟨rfl, rfl⟩) (ev_pos rfl (Ev.now _))))
 | succ d ih =>
  intro m hm hq hms hmt
  have r := ih (m - 1) (by omega) (by
   have := congrArg (List.drop 1) hq
   rwa [List.drop_drop, List.drop_drop, show s.size - m + 1 = s.size - (m - 1) from by omega, show t.size - m + 1 = t.size - (m - 1) from by omega] at this) (by omega) (by omega)
  have ew : wrap64 ((m : Int) - 1) = ((m - 1 : Nat) : Int) := by rw [wrap_id (by omega) (by omega)]; omega
  have w1 : wrap64 ((s.size : Int) - (m : Nat)) = ((s.size - m : Nat) : Int) := by rw [wrap_id (by omega) (by omega)]; omega
  have w2 : wrap64 ((t.size : Int) - (m : Nat)) = ((t.size - m : Nat) : Int) := by rw [wrap_id (by omega) (by omega)]; omega
  refine ev_off 1 ?_
  simp only [change_back.l1, ew, w1, w2]
  by_cases h1 : ∃ xs ys, Is (a ++ q) ((s.size - m : Nat) : Int) xs ys
  ·obtain ⟨xs, ys, i1⟩ := h1
   refine ev_bind (place_yes ha es i1) (ev_pos rfl ?_)
   by_cases h2 : ∃ xs ys, Is (b ++ q) ((t.size - m : Nat) : Int) xs ys
   ·exfalso
    obtain ⟨xs', ys', i2⟩ := h2
    have e1 : (bytesOf s).drop (s.size - m) = ys.flatten := by rw [es, i1.1, List.flatten_append, show s.size - m = xs.flatten.length from by have := i1.2; omega, List.drop_left]
    have e2 : (bytesOf t).drop (t.size - m) = ys'.flatten := by rw [et, i2.1, List.flatten_append, show t.size - m = xs'.flatten.length from by have := i2.2; omega, List.drop_left]
    have hx : ys = ys' := runes_inj (by have := ha; rw [i1.1] at this; exact this.right) (by have := hb; rw [i2.1] at this; exact this.right) (by rw [← e1, ← e2, hq])
    subst hx
    have hle := last_most hn i1.1 i2.1
    have hpx : ys <:+ q := List.suffix_of_suffix_length_le (l₃ := a ++ q) ⟨xs, i1.1.symm⟩ ⟨a, rfl⟩ hle
    obtain ⟨z, hz⟩ := hpx
    have h3 : ys.flatten.length ≤ q.flatten.length := by rw [← hz]; simp
    have h4 : s.size = xs.flatten.length + ys.flatten.length := by rw [← bytes_len s, es, i1.1]; simp
    have := i1.2
    omega
   ·exact ev_bind (place_not hb et (fun xs ys i => h2 ⟨xs, ys, i⟩)) (ev_neg (by simp) r)
  ·exact ev_bind (place_not ha es (fun xs ys i => h1 ⟨xs, ys, i⟩)) (ev_neg (by simp) r)
theorem back_l0 {s t : ByteArray} {q a b : List (List Int)} (hs : s.size ≤ 3000) (ht : t.size ≤ 3000) (ha : All (a ++ q)) (hb : All (b ++ q)) (es : bytesOf s = (a ++ q).flatten) (et : bytesOf t = (b ++ q).flatten) (hn : NoLast a b) (d : Nat) :
  ∀ i : Nat, i + d = s.size → i ≤ t.size → (bytesOf s).drop (s.size - i) = (bytesOf t).drop (t.size - i) → Ev (fun k => change_back.l0 k s t i) (q.flatten.length : Int) := by
 have hls : s.size = a.flatten.length + q.flatten.length := by rw [← bytes_len s, es]; simp
 have hlt : t.size = b.flatten.length + q.flatten.length := by rw [← bytes_len t, et]; simp
 have done : ∀ i : Nat, q.flatten.length ≤ i → i ≤ s.size → i ≤ t.size → (bytesOf s).drop (s.size - i) = (bytesOf t).drop (t.size - i) → Ev (fun k => change_back.j1 k s t i) (q.flatten.length : Int) := by
  intro i h1 h2 h3 h4
  refine ev_off 1 ?_
  simp only [change_back.j1]
  exact back_l1 hs ht ha hb es et hn (i - q.flatten.length) i (by omega) h4 h2 h3
 have pre : ∀ i : Nat, i < q.flatten.length → bt s ((s.size - 1 - i : Nat) : Int) = bt t ((t.size - 1 - i : Nat) : Int) := by
  intro i hi
  rw [bytes_get, bytes_get, es, et, Int.toNat_natCast, Int.toNat_natCast, List.flatten_append, List.flatten_append, List.getD_eq_getElem?_getD, List.getD_eq_getElem?_getD, List.getElem?_append_right (by omega), List.getElem?_append_right (by omega), show s.size - 1 - i - a.flatten.length = t.size - 1 - i - b.flatten.length from by omega]
 induction d with
 | zero =>
  intro i hi hit hq
  refine ev_off 1 ?_
  simp only [change_back.l0]
  exact ev_neg (by omega) (done i (by omega) (by omega) hit hq)
 | succ d ih =>
  intro i hi hit hq
  refine ev_off 1 ?_
  simp only [change_back.l0]
  refine ev_pos (by omega) ?_
  by_cases h1 : i < t.size
  ·have k1 : ((s.size - 1 - i : Nat) : Int) < (s.size : Int) := by omega
   have k2 : ((t.size - 1 - i : Nat) : Int) < (t.size : Int) := by omega
   have k3 : (i : Int) < (t.size : Int) := by omega
   have w1 : wrap64 (wrap64 ((s.size : Int) - 1) - (i : Nat)) = ((s.size - 1 - i : Nat) : Int) := by rw [wrap_id (x := (s.size : Int) - 1) (by omega) (by omega), wrap_id (by omega) (by omega)]; omega
   have w2 : wrap64 (wrap64 ((t.size : Int) - 1) - (i : Nat)) = ((t.size - 1 - i : Nat) : Int) := by rw [wrap_id (x := (t.size : Int) - 1) (by omega) (by omega), wrap_id (by omega) (by omega)]; omega
   have ew : wrap64 ((i : Int) + 1) = ((i + 1 : Nat) : Int) := by rw [wrap_id (by omega) (by omega)]; rfl
   simp only [w1, w2, ew]
   refine ev_pos k3 (ev_pos (Int.natCast_nonneg _) (ev_pos k1 (ev_pos (Int.natCast_nonneg _) (ev_pos k2 ?_))))
   by_cases h2 : bt s ((s.size - 1 - i : Nat) : Int) = bt t ((t.size - 1 - i : Nat) : Int)
   ·clear w1 w2 ew
    refine ev_pos h2 (ih (i + 1) (by omega) (by omega) ?_)
    have hl1 := bytes_len s
    have hl2 := bytes_len t
    have b1 : s.size - 1 - i < (bytesOf s).length := by omega
    have b2 : t.size - 1 - i < (bytesOf t).length := by omega
    have d1 : (bytesOf s).drop (s.size - (i + 1)) = (bytesOf s)[s.size - 1 - i] :: (bytesOf s).drop (s.size - i) := by
     rw [show s.size - (i + 1) = s.size - 1 - i from by omega, List.drop_eq_getElem_cons b1, show s.size - 1 - i + 1 = s.size - i from by omega]
    have d2 : (bytesOf t).drop (t.size - (i + 1)) = (bytesOf t)[t.size - 1 - i] :: (bytesOf t).drop (t.size - i) := by
     rw [show t.size - (i + 1) = t.size - 1 - i from by omega, List.drop_eq_getElem_cons b2, show t.size - 1 - i + 1 = t.size - i from by omega]
    rw [d1, d2, hq]
    rw [bytes_get, bytes_get, Int.toNat_natCast, Int.toNat_natCast, List.getD_eq_getElem?_getD, List.getD_eq_getElem?_getD, List.getElem?_eq_getElem b1, List.getElem?_eq_getElem b2] at h2
    simp only [Option.getD_some] at h2
    rw [h2]
   ·clear w1 w2 ew
    refine ev_neg h2 (done i ?_ (by omega) hit hq)
    rcases Nat.lt_or_ge i q.flatten.length with h | h
    ·exact absurd (pre i h) h2
    ·exact h
  ·exact ev_neg (by omega) (done i (by omega) (by omega) hit hq)
theorem back_is {s t : ByteArray} {q a b : List (List Int)} (hs : s.size ≤ 3000) (ht : t.size ≤ 3000) (ha : All (a ++ q)) (hb : All (b ++ q)) (es : bytesOf s = (a ++ q).flatten) (et : bytesOf t = (b ++ q).flatten) (hn : NoLast a b) :
  Ev (fun k => change_back.f k s t) (q.flatten.length : Int) := back_l0 hs ht ha hb es et hn s.size 0 (by omega) (by omega) (by rw [Nat.sub_zero, Nat.sub_zero, List.drop_of_length_le (by rw [bytes_len]; omega), List.drop_of_length_le (by rw [bytes_len]; omega)])
theorem diff_none {s t : ByteArray} (h : s = t ∨ ¬ Val (bytesOf s) ∨ ¬ Val (bytesOf t)) : Ev (fun k => change_Diff.f k s t) (0, (⟨#[]⟩ : ByteArray), (⟨#[]⟩ : ByteArray)) := by
 have jt : Ev (fun k => change_Diff.j0 k s t true) (0, (⟨#[]⟩ : ByteArray), (⟨#[]⟩ : ByteArray)) := by
  refine ev_off 1 ?_
  simp only [change_Diff.j0]
  exact ev_pos (by simp) (Ev.now _)
 unfold change_Diff.f
 by_cases h0 : s = t
 ·exact ev_pos ((toList_inj s t).2 h0) jt
 ·refine ev_neg (fun g => h0 ((toList_inj s t).1 g)) ?_
  by_cases h1 : Val (bytesOf s)
  ·have h2 : ¬ Val (bytesOf t) := by
    rcases h with h | h | h
    ·exact absurd h h0
    ·exact absurd h1 h
    ·exact h
   exact ev_bind (valid_yes h1) (ev_pos rfl (ev_bind (valid_no h2) jt))
  ·exact ev_bind (valid_no h1) (ev_neg (by simp) jt)
theorem diff_some {s t : ByteArray} {p a b u v q : List (List Int)} (hs : s.size ≤ 3000) (ht : t.size ≤ 3000) (hne : s ≠ t) (ha : All (p ++ a)) (hb : All (p ++ b)) (es : bytesOf s = (p ++ a).flatten) (et : bytesOf t = (p ++ b).flatten) (hn : NoHead a b) (ea : a = u ++ q) (eb : b = v ++ q) (hl : NoLast u v) :
  ∃ o n : ByteArray, Ev (fun k => change_Diff.f k s t) ((p.flatten.length : Int), o, n) ∧ bytesOf o = u.flatten ∧ bytesOf n = v.flatten := by
 have hls : s.size = p.flatten.length + a.flatten.length := by rw [← bytes_len s, es]; simp
 have hlt : t.size = p.flatten.length + b.flatten.length := by rw [← bytes_len t, et]; simp
 have es' : bytesOf (s.extract p.flatten.length s.size) = a.flatten := by rw [bytes_drop, es, List.flatten_append, List.drop_left]
 have et' : bytesOf (t.extract p.flatten.length t.size) = b.flatten := by rw [bytes_drop, et, List.flatten_append, List.drop_left]
 have hs' : (s.extract p.flatten.length s.size).size = a.flatten.length := by rw [← bytes_len, es']
 have ht' : (t.extract p.flatten.length t.size).size = b.flatten.length := by rw [← bytes_len, et']
 have bk := back_is (s := s.extract p.flatten.length s.size) (t := t.extract p.flatten.length t.size) (q := q) (a := u) (b := v) (by omega) (by omega) (by rw [← ea]; exact ha.right) (by rw [← eb]; exact hb.right) (by rw [es', ea]) (by rw [et', eb]) hl
 have la : a.flatten.length = u.flatten.length + q.flatten.length := by rw [ea]; simp
 have lb : b.flatten.length = v.flatten.length + q.flatten.length := by rw [eb]; simp
 refine ⟨(s.extract p.flatten.length s.size).extract 0 u.flatten.length, (t.extract p.flatten.length t.size).extract 0 v.flatten.length, ?_, ?_, ?_⟩
 ·unfold change_Diff.f
  refine ev_neg (fun g => hne ((toList_inj s t).1 g)) (ev_bind (valid_yes ⟨_, ha, es⟩) (ev_pos rfl (ev_bind (valid_yes ⟨_, hb, et⟩) ?_)))
  refine ev_off 1 ?_
  have w1 : wrap64 ((a.flatten.length : Int) - (q.flatten.length : Nat)) = (u.flatten.length : Nat) := by rw [wrap_id (by omega) (by omega)]; omega
  have w2 : wrap64 ((b.flatten.length : Int) - (q.flatten.length : Nat)) = (v.flatten.length : Nat) := by rw [wrap_id (by omega) (by omega)]; omega
  simp only [change_Diff.j0]
  refine ev_neg (by simp) (ev_bind (front_is hs ht ha hb es et hn) (ev_pos (by omega) (ev_pos (by omega) (ev_pos (by omega) ?_))))
  simp only [Int.toNat_natCast]
  refine ev_bind bk ?_
  simp only [hs', ht', w1, w2, Int.toNat_natCast]
  exact ev_pos (by omega) (ev_pos (by omega) (ev_pos (by omega) (ev_pos (by omega) (Ev.now _))))
 ·rw [bytes_extract, es', ea, List.flatten_append, List.drop_zero, Nat.sub_zero, List.take_left]
 ·rw [bytes_extract, et', eb, List.flatten_append, List.drop_zero, Nat.sub_zero, List.take_left]
end Go.Proofs.Ytkiokimpblimcaa.TreeKeepsChange
