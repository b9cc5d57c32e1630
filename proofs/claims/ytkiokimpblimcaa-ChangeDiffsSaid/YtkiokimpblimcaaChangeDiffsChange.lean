/- What the printed functions of layer 8, the program's and the document's, tell.
   Template: Ytkiokimpblimcaa the seat's name, ChangeDiffs the law's key; in pieces. -/
import Derived.Test.YtkiokimpblimcaaChangeDiffsUtf
namespace Go.Proofs.Ytkiokimpblimcaa.ChangeDiffsChange
open Go.RowKit Go.Proofs.YtkiokimpblimcaaW.PrintWords Go.Proofs.YtkiokimpblimcaaW.PrintLast Go.Proofs.YtkiokimpblimcaaW.PrintMore
open Go.Proofs.Ytkiokimpblimcaa.PChangeDiffs Go.Proofs.Ytkiokimpblimcaa.Utf Go.Proofs.Ytkiokimpblimcaa.ChangeDiffsUtf Go.Proofs.Ytkiokimpblimcaa.Open
set_option linter.unusedVariables false
set_option linter.unusedSimpArgs false

theorem lives_ : Ev (fun k => calamuslaw08_lives.f k) true := Ev.of calamuslaw08_lives.mono (k := 40) (by decide +kernel)
def NoHead (a b : List (List Int)) : Prop := ∀ x xs ys, ¬ (a = x :: xs ∧ b = x :: ys)
def NoLast (a b : List (List Int)) : Prop := ∀ x xs ys, ¬ (a = xs ++ [x] ∧ b = ys ++ [x])
theorem common_head (ms : List (List Int)) : ∀ ns, ∃ p a b, ms = p ++ a ∧ ns = p ++ b ∧ NoHead a b := by
  induction ms with
  | nil => intro ns; exact ⟨[], [], ns, rfl, rfl, fun x xs ys h => by simp at h⟩
  | cons x ms ih =>
    intro ns
    rcases ns with _ | ⟨y, ns⟩
    · exact ⟨[], x :: ms, [], rfl, rfl, fun z xs ys h => by simp at h⟩
    · by_cases h : x = y
      · subst h
        obtain ⟨p, a, b, rfl, rfl, hn⟩ := ih ns
        exact ⟨x :: p, a, b, rfl, rfl, hn⟩
      · exact ⟨[], x :: ms, y :: ns, rfl, rfl, fun z xs ys hh => by simp at hh; exact h (hh.1.1.trans hh.2.1.symm)⟩
theorem common_last (ms ns : List (List Int)) : ∃ s a b, ms = a ++ s ∧ ns = b ++ s ∧ NoLast a b := by
  obtain ⟨p, a, b, e1, e2, hn⟩ := common_head ms.reverse ns.reverse
  refine ⟨p.reverse, a.reverse, b.reverse, by rw [← List.reverse_append, ← e1, List.reverse_reverse], by rw [← List.reverse_append, ← e2, List.reverse_reverse], fun x xs ys h => ?_⟩
  refine hn x xs.reverse ys.reverse ⟨?_, ?_⟩
  · rw [← List.reverse_reverse a, h.1]; simp
  · rw [← List.reverse_reverse b, h.2]; simp
theorem head_most {p a b q a' b' : List (List Int)} (hn : NoHead a b) (h1 : p ++ a = q ++ a') (h2 : p ++ b = q ++ b') : q.length ≤ p.length := by
  rcases Nat.lt_or_ge p.length q.length with h | h
  · exfalso
    have : p <+: q := List.prefix_of_prefix_length_le (l₃ := p ++ a) ⟨a, rfl⟩ ⟨a', h1.symm⟩ (by omega)
    obtain ⟨z, rfl⟩ := this
    rcases z with _ | ⟨x, z⟩
    · simp at h
    · rw [List.append_assoc] at h1 h2
      exact hn x (z ++ a') (z ++ b') ⟨List.append_cancel_left h1, List.append_cancel_left h2⟩
  · exact h
theorem last_most {s a b q a' b' : List (List Int)} (hn : NoLast a b) (h1 : a ++ s = a' ++ q) (h2 : b ++ s = b' ++ q) : q.length ≤ s.length := by
  have := head_most (p := s.reverse) (a := a.reverse) (b := b.reverse) (q := q.reverse) (a' := a'.reverse) (b' := b'.reverse) (fun x xs ys h => by
    refine hn x xs.reverse ys.reverse ⟨?_, ?_⟩
    · rw [← List.reverse_reverse a, h.1]; simp
    · rw [← List.reverse_reverse b, h.2]; simp) (by rw [← List.reverse_append, h1, List.reverse_append]) (by rw [← List.reverse_append, h2, List.reverse_append])
  simpa using this
theorem flat_le {p q r : List (List Int)} (h : q = p ++ r) : p.flatten.length ≤ q.flatten.length := by subst h; simp
theorem front_l1 {s t : ByteArray} {p a b : List (List Int)} (hs : s.size ≤ 3000) (ht : t.size ≤ 3000) (ha : All (p ++ a)) (hb : All (p ++ b)) (es : bytesOf s = (p ++ a).flatten) (et : bytesOf t = (p ++ b).flatten) (hn : NoHead a b) (d : Nat) :
    ∀ m : Nat, m = p.flatten.length + d → (bytesOf s).take m = (bytesOf t).take m → m ≤ s.size → m ≤ t.size → Ev (fun k => change_front.l1 k s t m) (p.flatten.length : Int) := by
  induction d with
  | zero =>
    intro m hm _ _ _
    rw [Nat.add_zero] at hm
    subst hm
    refine ev_off 1 ?_
    simp only [change_front.l1]
    exact ev_bind (place_yes ha es ⟨rfl, rfl⟩) (ev_pos rfl (ev_bind (place_yes hb et ⟨rfl, rfl⟩) (ev_pos rfl (Ev.now _))))
  | succ d ih =>
    intro m hm hq hms hmt
    have q := ih (m - 1) (by omega) (by
      have := congrArg (List.take (m - 1)) hq
      rwa [List.take_take, List.take_take, Nat.min_eq_left (by omega)] at this) (by omega) (by omega)
    have ew : wrap64 ((m : Int) - 1) = ((m - 1 : Nat) : Int) := by rw [wrap_id (by omega) (by omega)]; omega
    refine ev_off 1 ?_
    simp only [change_front.l1, ew]
    by_cases h1 : ∃ xs ys, Is (p ++ a) (m : Int) xs ys
    · obtain ⟨xs, ys, i1⟩ := h1
      refine ev_bind (place_yes ha es i1) (ev_pos rfl ?_)
      by_cases h2 : ∃ xs ys, Is (p ++ b) (m : Int) xs ys
      · exfalso
        obtain ⟨xs', ys', i2⟩ := h2
        have e1 : (bytesOf s).take m = xs.flatten := by rw [es, i1.1, List.flatten_append, show m = xs.flatten.length from by have := i1.2; omega, List.take_left]
        have e2 : (bytesOf t).take m = xs'.flatten := by rw [et, i2.1, List.flatten_append, show m = xs'.flatten.length from by have := i2.2; omega, List.take_left]
        have hx : xs = xs' := runes_inj (by have := ha; rw [i1.1] at this; exact this.left) (by have := hb; rw [i2.1] at this; exact this.left) (by rw [← e1, ← e2, hq])
        subst hx
        have hle := head_most hn i1.1 i2.1
        have hpx : xs <+: p := List.prefix_of_prefix_length_le (l₃ := p ++ a) ⟨ys, i1.1.symm⟩ ⟨a, rfl⟩ hle
        obtain ⟨z, hz⟩ := hpx
        have := flat_le hz.symm
        have := i1.2
        omega
      · exact ev_bind (place_not hb et (fun xs ys i => h2 ⟨xs, ys, i⟩)) (ev_neg (by simp) q)
    · exact ev_bind (place_not ha es (fun xs ys i => h1 ⟨xs, ys, i⟩)) (ev_neg (by simp) q)
theorem front_l0 {s t : ByteArray} {p a b : List (List Int)} (hs : s.size ≤ 3000) (ht : t.size ≤ 3000) (ha : All (p ++ a)) (hb : All (p ++ b)) (es : bytesOf s = (p ++ a).flatten) (et : bytesOf t = (p ++ b).flatten) (hn : NoHead a b) (d : Nat) :
    ∀ i : Nat, i + d = s.size → i ≤ t.size → (bytesOf s).take i = (bytesOf t).take i → Ev (fun k => change_front.l0 k s t i) (p.flatten.length : Int) := by
  have hls := bytes_len s
  have hlt := bytes_len t
  have hp1 : p.flatten.length ≤ s.size := by rw [← hls, es]; exact flat_le rfl
  have hp2 : p.flatten.length ≤ t.size := by rw [← hlt, et]; exact flat_le rfl
  have done : ∀ i : Nat, p.flatten.length ≤ i → i ≤ s.size → i ≤ t.size → (bytesOf s).take i = (bytesOf t).take i → Ev (fun k => change_front.j1 k s t i) (p.flatten.length : Int) := by
    intro i h1 h2 h3 h4
    refine ev_off 1 ?_
    simp only [change_front.j1]
    exact front_l1 hs ht ha hb es et hn (i - p.flatten.length) i (by omega) h4 h2 h3
  have pre : ∀ i : Nat, i < p.flatten.length → bt s (i : Int) = bt t (i : Int) := by
    intro i hi
    rw [bytes_get, bytes_get, es, et, Int.toNat_natCast, List.flatten_append, List.flatten_append, List.getD_eq_getElem?_getD, List.getD_eq_getElem?_getD, List.getElem?_append_left hi, List.getElem?_append_left hi]
  induction d with
  | zero =>
    intro i hi hit hq
    refine ev_off 1 ?_
    simp only [change_front.l0]
    exact ev_neg (by omega) (done i (by omega) (by omega) hit hq)
  | succ d ih =>
    intro i hi hit hq
    refine ev_off 1 ?_
    simp only [change_front.l0]
    refine ev_pos (by omega) ?_
    by_cases h1 : i < t.size
    · refine ev_pos (by omega) (ev_pos (by omega) ?_)
      by_cases h2 : bt s (i : Int) = bt t (i : Int)
      · refine ev_pos h2 ?_
        have ew : wrap64 ((i : Int) + 1) = ((i + 1 : Nat) : Int) := by rw [wrap_id (by omega) (by omega)]; rfl
        simp only [ew]
        refine ih (i + 1) (by omega) (by omega) ?_
        rw [List.take_add_one, List.take_add_one, hq]
        rw [bytes_get, bytes_get, Int.toNat_natCast, List.getD_eq_getElem?_getD, List.getD_eq_getElem?_getD, List.getElem?_eq_getElem (by omega), List.getElem?_eq_getElem (by omega)] at h2
        rw [List.getElem?_eq_getElem (by omega), List.getElem?_eq_getElem (by omega)]
        simp only [Option.getD_some] at h2
        rw [h2]
      · refine ev_neg h2 (done i ?_ (by omega) hit hq)
        rcases Nat.lt_or_ge i p.flatten.length with h | h
        · exact absurd (pre i h) h2
        · exact h
    · exact ev_neg (by omega) (done i (by omega) (by omega) hit hq)
theorem front_is {s t : ByteArray} {p a b : List (List Int)} (hs : s.size ≤ 3000) (ht : t.size ≤ 3000) (ha : All (p ++ a)) (hb : All (p ++ b)) (es : bytesOf s = (p ++ a).flatten) (et : bytesOf t = (p ++ b).flatten) (hn : NoHead a b) :
    Ev (fun k => change_front.f k s t) (p.flatten.length : Int) := front_l0 hs ht ha hb es et hn s.size 0 (by omega) (by omega) rfl
theorem back_l1 {s t : ByteArray} {q a b : List (List Int)} (hs : s.size ≤ 3000) (ht : t.size ≤ 3000) (ha : All (a ++ q)) (hb : All (b ++ q)) (es : bytesOf s = (a ++ q).flatten) (et : bytesOf t = (b ++ q).flatten) (hn : NoLast a b) (d : Nat) :
    ∀ m : Nat, m = q.flatten.length + d → (bytesOf s).drop (s.size - m) = (bytesOf t).drop (t.size - m) → m ≤ s.size → m ≤ t.size → Ev (fun k => change_back.l1 k s t m) (q.flatten.length : Int) := by
  have hls : s.size = a.flatten.length + q.flatten.length := by rw [← bytes_len s, es]; simp
  have hlt : t.size = b.flatten.length + q.flatten.length := by rw [← bytes_len t, et]; simp
  induction d with
  | zero =>
    intro m hm _ _ _
    rw [Nat.add_zero] at hm
    subst hm
    have w1 : wrap64 ((s.size : Int) - (q.flatten.length : Nat)) = (a.flatten.length : Nat) := by rw [wrap_id (by omega) (by omega)]; omega
    have w2 : wrap64 ((t.size : Int) - (q.flatten.length : Nat)) = (b.flatten.length : Nat) := by rw [wrap_id (by omega) (by omega)]; omega
    refine ev_off 1 ?_
    simp only [change_back.l1, w1, w2]
    exact ev_bind (place_yes ha es ⟨rfl, rfl⟩) (ev_pos rfl (ev_bind (place_yes hb et ⟨rfl, rfl⟩) (ev_pos rfl (Ev.now _))))
  | succ d ih =>
    intro m hm hq hms hmt
    have r := ih (m - 1) (by omega) (by
      have := congrArg (List.drop 1) hq
      rwa [List.drop_drop, List.drop_drop, show s.size - m + 1 = s.size - (m - 1) from by omega, show t.size - m + 1 = t.size - (m - 1) from by omega] at this) (by omega) (by omega)
    have ew : wrap64 ((m : Int) - 1) = ((m - 1 : Nat) : Int) := by rw [wrap_id (by omega) (by omega)]; omega
    have w1 : wrap64 ((s.size : Int) - (m : Nat)) = ((s.size - m : Nat) : Int) := by rw [wrap_id (by omega) (by omega)]; omega
    have w2 : wrap64 ((t.size : Int) - (m : Nat)) = ((t.size - m : Nat) : Int) := by rw [wrap_id (by omega) (by omega)]; omega
    refine ev_off 1 ?_
    simp only [change_back.l1, ew, w1, w2]
    by_cases h1 : ∃ xs ys, Is (a ++ q) ((s.size - m : Nat) : Int) xs ys
    · obtain ⟨xs, ys, i1⟩ := h1
      refine ev_bind (place_yes ha es i1) (ev_pos rfl ?_)
      by_cases h2 : ∃ xs ys, Is (b ++ q) ((t.size - m : Nat) : Int) xs ys
      · exfalso
        obtain ⟨xs', ys', i2⟩ := h2
        have e1 : (bytesOf s).drop (s.size - m) = ys.flatten := by rw [es, i1.1, List.flatten_append, show s.size - m = xs.flatten.length from by have := i1.2; omega, List.drop_left]
        have e2 : (bytesOf t).drop (t.size - m) = ys'.flatten := by rw [et, i2.1, List.flatten_append, show t.size - m = xs'.flatten.length from by have := i2.2; omega, List.drop_left]
        have hx : ys = ys' := runes_inj (by have := ha; rw [i1.1] at this; exact this.right) (by have := hb; rw [i2.1] at this; exact this.right) (by rw [← e1, ← e2, hq])
        subst hx
        have hle := last_most hn i1.1 i2.1
        have hpx : ys <:+ q := List.suffix_of_suffix_length_le (l₃ := a ++ q) ⟨xs, i1.1.symm⟩ ⟨a, rfl⟩ hle
        obtain ⟨z, hz⟩ := hpx
        have h3 : ys.flatten.length ≤ q.flatten.length := by rw [← hz]; simp
        have h4 : s.size = xs.flatten.length + ys.flatten.length := by rw [← bytes_len s, es, i1.1]; simp
        have := i1.2
        omega
      · exact ev_bind (place_not hb et (fun xs ys i => h2 ⟨xs, ys, i⟩)) (ev_neg (by simp) r)
    · exact ev_bind (place_not ha es (fun xs ys i => h1 ⟨xs, ys, i⟩)) (ev_neg (by simp) r)
theorem back_l0 {s t : ByteArray} {q a b : List (List Int)} (hs : s.size ≤ 3000) (ht : t.size ≤ 3000) (ha : All (a ++ q)) (hb : All (b ++ q)) (es : bytesOf s = (a ++ q).flatten) (et : bytesOf t = (b ++ q).flatten) (hn : NoLast a b) (d : Nat) :
    ∀ i : Nat, i + d = s.size → i ≤ t.size → (bytesOf s).drop (s.size - i) = (bytesOf t).drop (t.size - i) → Ev (fun k => change_back.l0 k s t i) (q.flatten.length : Int) := by
  have hls : s.size = a.flatten.length + q.flatten.length := by rw [← bytes_len s, es]; simp
  have hlt : t.size = b.flatten.length + q.flatten.length := by rw [← bytes_len t, et]; simp
  have done : ∀ i : Nat, q.flatten.length ≤ i → i ≤ s.size → i ≤ t.size → (bytesOf s).drop (s.size - i) = (bytesOf t).drop (t.size - i) → Ev (fun k => change_back.j1 k s t i) (q.flatten.length : Int) := by
    intro i h1 h2 h3 h4
    refine ev_off 1 ?_
    simp only [change_back.j1]
    exact back_l1 hs ht ha hb es et hn (i - q.flatten.length) i (by omega) h4 h2 h3
  have pre : ∀ i : Nat, i < q.flatten.length → bt s ((s.size - 1 - i : Nat) : Int) = bt t ((t.size - 1 - i : Nat) : Int) := by
    intro i hi
    rw [bytes_get, bytes_get, es, et, Int.toNat_natCast, Int.toNat_natCast, List.flatten_append, List.flatten_append, List.getD_eq_getElem?_getD, List.getD_eq_getElem?_getD, List.getElem?_append_right (by omega), List.getElem?_append_right (by omega), show s.size - 1 - i - a.flatten.length = t.size - 1 - i - b.flatten.length from by omega]
  induction d with
  | zero =>
    intro i hi hit hq
    refine ev_off 1 ?_
    simp only [change_back.l0]
    exact ev_neg (by omega) (done i (by omega) (by omega) hit hq)
  | succ d ih =>
    intro i hi hit hq
    refine ev_off 1 ?_
    simp only [change_back.l0]
    refine ev_pos (by omega) ?_
    by_cases h1 : i < t.size
    · have k1 : ((s.size - 1 - i : Nat) : Int) < (s.size : Int) := by omega
      have k2 : ((t.size - 1 - i : Nat) : Int) < (t.size : Int) := by omega
      have k3 : (i : Int) < (t.size : Int) := by omega
      have w1 : wrap64 (wrap64 ((s.size : Int) - 1) - (i : Nat)) = ((s.size - 1 - i : Nat) : Int) := by rw [wrap_id (x := (s.size : Int) - 1) (by omega) (by omega), wrap_id (by omega) (by omega)]; omega
      have w2 : wrap64 (wrap64 ((t.size : Int) - 1) - (i : Nat)) = ((t.size - 1 - i : Nat) : Int) := by rw [wrap_id (x := (t.size : Int) - 1) (by omega) (by omega), wrap_id (by omega) (by omega)]; omega
      have ew : wrap64 ((i : Int) + 1) = ((i + 1 : Nat) : Int) := by rw [wrap_id (by omega) (by omega)]; rfl
      simp only [w1, w2, ew]
      refine ev_pos k3 (ev_pos (Int.natCast_nonneg _) (ev_pos k1 (ev_pos (Int.natCast_nonneg _) (ev_pos k2 ?_))))
      by_cases h2 : bt s ((s.size - 1 - i : Nat) : Int) = bt t ((t.size - 1 - i : Nat) : Int)
      · clear w1 w2 ew
        refine ev_pos h2 (ih (i + 1) (by omega) (by omega) ?_)
        have hl1 := bytes_len s
        have hl2 := bytes_len t
        have b1 : s.size - 1 - i < (bytesOf s).length := by omega
        have b2 : t.size - 1 - i < (bytesOf t).length := by omega
        have d1 : (bytesOf s).drop (s.size - (i + 1)) = (bytesOf s)[s.size - 1 - i] :: (bytesOf s).drop (s.size - i) := by
          rw [show s.size - (i + 1) = s.size - 1 - i from by omega, List.drop_eq_getElem_cons b1, show s.size - 1 - i + 1 = s.size - i from by omega]
        have d2 : (bytesOf t).drop (t.size - (i + 1)) = (bytesOf t)[t.size - 1 - i] :: (bytesOf t).drop (t.size - i) := by
          rw [show t.size - (i + 1) = t.size - 1 - i from by omega, List.drop_eq_getElem_cons b2, show t.size - 1 - i + 1 = t.size - i from by omega]
        rw [d1, d2, hq]
        rw [bytes_get, bytes_get, Int.toNat_natCast, Int.toNat_natCast, List.getD_eq_getElem?_getD, List.getD_eq_getElem?_getD, List.getElem?_eq_getElem b1, List.getElem?_eq_getElem b2] at h2
        simp only [Option.getD_some] at h2
        rw [h2]
      · clear w1 w2 ew
        refine ev_neg h2 (done i ?_ (by omega) hit hq)
        rcases Nat.lt_or_ge i q.flatten.length with h | h
        · exact absurd (pre i h) h2
        · exact h
    · exact ev_neg (by omega) (done i (by omega) (by omega) hit hq)
theorem back_is {s t : ByteArray} {q a b : List (List Int)} (hs : s.size ≤ 3000) (ht : t.size ≤ 3000) (ha : All (a ++ q)) (hb : All (b ++ q)) (es : bytesOf s = (a ++ q).flatten) (et : bytesOf t = (b ++ q).flatten) (hn : NoLast a b) :
    Ev (fun k => change_back.f k s t) (q.flatten.length : Int) := back_l0 hs ht ha hb es et hn s.size 0 (by omega) (by omega) (by rw [Nat.sub_zero, Nat.sub_zero, List.drop_of_length_le (by rw [bytes_len]; omega), List.drop_of_length_le (by rw [bytes_len]; omega)])
theorem diff_none {s t : ByteArray} (h : s = t ∨ ¬ Val (bytesOf s) ∨ ¬ Val (bytesOf t)) : Ev (fun k => change_Diff.f k s t) (0, (⟨#[]⟩ : ByteArray), (⟨#[]⟩ : ByteArray)) := by
  have jt : Ev (fun k => change_Diff.j0 k s t true) (0, (⟨#[]⟩ : ByteArray), (⟨#[]⟩ : ByteArray)) := by
    refine ev_off 1 ?_
    simp only [change_Diff.j0]
    exact ev_pos (by simp) (Ev.now _)
  unfold change_Diff.f
  by_cases h0 : s = t
  · exact ev_pos ((toList_inj s t).2 h0) jt
  · refine ev_neg (fun g => h0 ((toList_inj s t).1 g)) ?_
    by_cases h1 : Val (bytesOf s)
    · have h2 : ¬ Val (bytesOf t) := by
        rcases h with h | h | h
        · exact absurd h h0
        · exact absurd h1 h
        · exact h
      exact ev_bind (valid_yes h1) (ev_pos rfl (ev_bind (valid_no h2) jt))
    · exact ev_bind (valid_no h1) (ev_neg (by simp) jt)
theorem diff_some {s t : ByteArray} {p a b u v q : List (List Int)} (hs : s.size ≤ 3000) (ht : t.size ≤ 3000) (hne : s ≠ t) (ha : All (p ++ a)) (hb : All (p ++ b)) (es : bytesOf s = (p ++ a).flatten) (et : bytesOf t = (p ++ b).flatten) (hn : NoHead a b) (ea : a = u ++ q) (eb : b = v ++ q) (hl : NoLast u v) :
    ∃ o n : ByteArray, Ev (fun k => change_Diff.f k s t) ((p.flatten.length : Int), o, n) ∧ bytesOf o = u.flatten ∧ bytesOf n = v.flatten := by
  have hls : s.size = p.flatten.length + a.flatten.length := by rw [← bytes_len s, es]; simp
  have hlt : t.size = p.flatten.length + b.flatten.length := by rw [← bytes_len t, et]; simp
  have es' : bytesOf (s.extract p.flatten.length s.size) = a.flatten := by rw [bytes_drop, es, List.flatten_append, List.drop_left]
  have et' : bytesOf (t.extract p.flatten.length t.size) = b.flatten := by rw [bytes_drop, et, List.flatten_append, List.drop_left]
  have hs' : (s.extract p.flatten.length s.size).size = a.flatten.length := by rw [← bytes_len, es']
  have ht' : (t.extract p.flatten.length t.size).size = b.flatten.length := by rw [← bytes_len, et']
  have bk := back_is (s := s.extract p.flatten.length s.size) (t := t.extract p.flatten.length t.size) (q := q) (a := u) (b := v) (by omega) (by omega) (by rw [← ea]; exact ha.right) (by rw [← eb]; exact hb.right) (by rw [es', ea]) (by rw [et', eb]) hl
  have la : a.flatten.length = u.flatten.length + q.flatten.length := by rw [ea]; simp
  have lb : b.flatten.length = v.flatten.length + q.flatten.length := by rw [eb]; simp
  refine ⟨(s.extract p.flatten.length s.size).extract 0 u.flatten.length, (t.extract p.flatten.length t.size).extract 0 v.flatten.length, ?_, ?_, ?_⟩
  · unfold change_Diff.f
    refine ev_neg (fun g => hne ((toList_inj s t).1 g)) (ev_bind (valid_yes ⟨_, ha, es⟩) (ev_pos rfl (ev_bind (valid_yes ⟨_, hb, et⟩) ?_)))
    refine ev_off 1 ?_
    have w1 : wrap64 ((a.flatten.length : Int) - (q.flatten.length : Nat)) = (u.flatten.length : Nat) := by rw [wrap_id (by omega) (by omega)]; omega
    have w2 : wrap64 ((b.flatten.length : Int) - (q.flatten.length : Nat)) = (v.flatten.length : Nat) := by rw [wrap_id (by omega) (by omega)]; omega
    simp only [change_Diff.j0]
    refine ev_neg (by simp) (ev_bind (front_is hs ht ha hb es et hn) (ev_pos (by omega) (ev_pos (by omega) (ev_pos (by omega) ?_))))
    simp only [Int.toNat_natCast]
    refine ev_bind bk ?_
    simp only [hs', ht', w1, w2, Int.toNat_natCast]
    exact ev_pos (by omega) (ev_pos (by omega) (ev_pos (by omega) (ev_pos (by omega) (Ev.now _))))
  · rw [bytes_extract, es', ea, List.flatten_append, List.drop_zero, Nat.sub_zero, List.take_left]
  · rw [bytes_extract, et', eb, List.flatten_append, List.drop_zero, Nat.sub_zero, List.take_left]
def bl (l : List ByteArray) : List (List Int) := l.map bytesOf
theorem bl_len (l : List ByteArray) : (bl l).length = l.length := by simp [bl]
theorem bl_get (l : List ByteArray) (i : Nat) (h : i < l.length) : bytesOf (rdOf ByteArray.empty l (i : Int)) = (bl l)[i]'(by rw [bl_len]; exact h) := by
  unfold rdOf bl
  rw [Int.toNat_natCast, List.getD_eq_getElem?_getD, List.getElem?_eq_getElem h, List.getElem_map]; rfl
theorem bl_get_of {l : List ByteArray} {m : List (List Int)} (e : bl l = m) (i : Nat) (h : i < l.length) : bytesOf (rdOf ByteArray.empty l (i : Int)) = m[i]'(by rw [← e, bl_len]; exact h) := by
  subst e; exact bl_get l i h
theorem runes_l {s : ByteArray} {rs : List (List Int)} (hs : s.size ≤ 3000) (h : All rs) (e : bytesOf s = rs.flatten) (d : Nat) : ∀ (i : Nat) (acc : List ByteArray), i + d = rs.length → bl acc = rs.take i →
    ∃ l, Ev (fun k => calamusref08_runes.l0 k s (cum 0 rs) acc i) l ∧ bl l = rs := by
  have hfl := flat_len rs h
  rw [← e, bytes_len] at hfl
  induction d with
  | zero =>
    intro i acc hi ha
    refine ⟨acc, ev_off 1 ?_, by rw [ha, List.take_of_length_le (by omega)]⟩
    simp only [calamusref08_runes.l0, cum_length]
    exact ev_neg (by rw [wrap_id (by omega) (by omega)]; omega) (Ev.now _)
  | succ d ih =>
    intro i acc hi ha
    have hlt : i < rs.length := by omega
    have ew : wrap64 ((i : Int) + 1) = ((i + 1 : Nat) : Int) := by rw [wrap_id (by omega) (by omega)]; rfl
    have c1 : rd (cum 0 rs) (i : Int) = ((rs.take i).flatten.length : Int) := by rw [rd, Int.toNat_natCast, cum_at i (by omega)]
    have c2 : rd (cum 0 rs) ((i + 1 : Nat) : Int) = ((rs.take (i + 1)).flatten.length : Int) := by rw [rd, Int.toNat_natCast, cum_at (i + 1) (by omega)]
    have et : rs.take (i + 1) = rs.take i ++ [rs[i]] := by rw [List.take_succ_eq_append_getElem hlt]
    have el : (rs.take (i + 1)).flatten.length = (rs.take i).flatten.length + (rs[i]).length := by rw [et, List.flatten_append, List.length_append]; simp
    have ex : bytesOf (s.extract (rs.take i).flatten.length (rs.take (i + 1)).flatten.length) = rs[i] := by
      have hd : rs.flatten = (rs.take i).flatten ++ (rs[i] ++ (rs.drop (i + 1)).flatten) := by rw [← List.flatten_cons, ← List.drop_eq_getElem_cons hlt, ← List.flatten_append, List.take_append_drop]
      rw [bytes_extract, el, Nat.add_sub_cancel_left, e, hd, List.drop_left, List.take_left]
    have hle : (rs.take (i + 1)).flatten.length ≤ s.size := by
      rw [← bytes_len s, e]
      exact flat_le (r := rs.drop (i + 1)) (List.take_append_drop _ _).symm
    have hal : acc.length = i := by rw [← bl_len, ha, List.length_take]; omega
    obtain ⟨l, q, hl⟩ := ih (i + 1) (acc ++ [s.extract (rs.take i).flatten.length (rs.take (i + 1)).flatten.length]) (by omega) (by rw [show bl (acc ++ [s.extract (rs.take i).flatten.length (rs.take (i + 1)).flatten.length]) = bl acc ++ [bytesOf (s.extract (rs.take i).flatten.length (rs.take (i + 1)).flatten.length)] from by simp [bl], ha, ex, et])
    refine ⟨l, ev_off 1 ?_, hl⟩
    simp only [calamusref08_runes.l0, cum_length, ew, c1, c2, Int.toNat_natCast]
    exact ev_pos (by omega) (ev_pos (by omega) (ev_pos (by omega) (ev_pos (by omega) (ev_pos (by omega) (ev_pos (by omega) (ev_pos (by omega) (ev_pos (by omega) q)))))))
theorem runes_is {s : ByteArray} {rs : List (List Int)} (hs : s.size ≤ 3000) (h : All rs) (e : bytesOf s = rs.flatten) : ∃ l, Ev (fun k => calamusref08_runes.f k s) l ∧ bl l = rs := by
  obtain ⟨l, q, hl⟩ := runes_l hs h e rs.length 0 [] (by omega) (by simp [bl])
  refine ⟨l, ?_, hl⟩
  unfold calamusref08_runes.f
  exact ev_bind (split_yes (by omega) h e) q
theorem glue_l (l : List ByteArray) (hl : (bl l).flatten.length ≤ 3000) (hll : l.length ≤ 3000) (d : Nat) : ∀ (i : Nat) (acc : ByteArray), i + d = l.length → bytesOf acc = ((bl l).take i).flatten →
    ∃ s, Ev (fun k => calamusref08_glue.l0 k l acc i) s ∧ bytesOf s = (bl l).flatten := by
  induction d with
  | zero =>
    intro i acc hi ha
    refine ⟨acc, ev_off 1 ?_, by rw [ha, List.take_of_length_le (by rw [bl_len]; omega)]⟩
    simp only [calamusref08_glue.l0]
    exact ev_neg (by omega) (Ev.now _)
  | succ d ih =>
    intro i acc hi ha
    have hlt : i < l.length := by omega
    have hb : i < (bl l).length := by rw [bl_len]; exact hlt
    have g := bl_get l i hlt
    have ew : wrap64 ((i : Int) + 1) = ((i + 1 : Nat) : Int) := by rw [wrap_id (by omega) (by omega)]; rfl
    have et : (bl l).take (i + 1) = (bl l).take i ++ [(bl l)[i]] := by rw [List.take_succ_eq_append_getElem hb]
    have f1 : ((bl l).take (i + 1)).flatten.length ≤ 3000 := Nat.le_trans (flat_le (r := (bl l).drop (i + 1)) (List.take_append_drop _ _).symm) hl
    have ef : ((bl l).take (i + 1)).flatten = ((bl l).take i).flatten ++ (bl l)[i] := by rw [et, List.flatten_append]; simp
    have hsz : acc.size + (rdOf ByteArray.empty l (i : Int)).size = ((bl l).take (i + 1)).flatten.length := by rw [ef, ← bytes_len, ← bytes_len, g, ha, List.length_append]
    obtain ⟨s, q, hq⟩ := ih (i + 1) (acc ++ rdOf ByteArray.empty l (i : Int)) (by omega) (by rw [bytes_append, ha, g, ef])
    refine ⟨s, ev_off 1 ?_, hq⟩
    simp only [calamusref08_glue.l0, ew]
    exact ev_pos (by omega) (ev_pos (by omega) (ev_pos (by omega) q))
theorem glue_is (l : List ByteArray) (hl : (bl l).flatten.length ≤ 3000) (hll : l.length ≤ 3000) : ∃ s, Ev (fun k => calamusref08_glue.f k l) s ∧ bytesOf s = (bl l).flatten :=
  glue_l l hl hll l.length 0 _ (by omega) (by simp [bytes_empty])
theorem rdiff_l1 (at_ : Int) {u v : List (List Int)} (hn : NoLast u v) (hu : u.flatten.length ≤ 3000) (hv : v.flatten.length ≤ 3000) (hul : u.length ≤ 3000) (hvl : v.length ≤ 3000) (q : List (List Int)) : ∀ x y : List ByteArray, x.length ≤ 3000 → y.length ≤ 3000 → bl x = u ++ q → bl y = v ++ q →
    ∃ o n, Ev (fun k => calamusref08_Diff.l1 k x y at_) (at_, o, n) ∧ bytesOf o = u.flatten ∧ bytesOf n = v.flatten := by
  induction h : q.length generalizing q with
  | zero =>
    intro x y hx hy ex ey
    obtain rfl : q = [] := List.eq_nil_of_length_eq_zero h
    rw [List.append_nil] at ex ey
    have lx : x.length = u.length := by rw [← bl_len, ex]
    have ly : y.length = v.length := by rw [← bl_len, ey]
    obtain ⟨o, o1, o2⟩ := glue_is x (by rw [ex]; exact hu) hx
    obtain ⟨n, n1, n2⟩ := glue_is y (by rw [ey]; exact hv) hy
    have fin : Ev (fun k => (calamusref08_glue.f k x).bind fun t193 => ((calamusref08_glue.f k y).bind fun t194 => (some (at_, t193, t194)))) (at_, o, n) := ev_bind o1 (ev_bind n1 (Ev.now _))
    refine ⟨o, n, ev_off 1 ?_, by rw [o2, ex], by rw [n2, ey]⟩
    simp only [calamusref08_Diff.l1]
    by_cases h1 : x.length = 0
    · exact ev_neg (by omega) fin
    refine ev_pos (by omega) ?_
    by_cases h2 : y.length = 0
    · exact ev_neg (by omega) fin
    have w1 : wrap64 ((x.length : Int) - 1) = ((x.length - 1 : Nat) : Int) := by rw [wrap_id (by omega) (by omega)]; omega
    have w2 : wrap64 ((y.length : Int) - 1) = ((y.length - 1 : Nat) : Int) := by rw [wrap_id (by omega) (by omega)]; omega
    simp only [w1, w2]
    refine ev_pos (by omega) (ev_pos (by omega) (ev_pos (by omega) (ev_pos (by omega) (ev_pos (by omega) (ev_neg ?_ fin)))))
    intro g
    rw [toList_inj] at g
    have g1 := congrArg bytesOf g
    rw [bl_get x _ (by omega), bl_get y _ (by omega)] at g1
    refine hn ((bl x)[x.length - 1]'(by rw [bl_len]; omega)) ((bl x).take (x.length - 1)) ((bl y).take (y.length - 1)) ⟨?_, ?_⟩
    · rw [← List.take_succ_eq_append_getElem, List.take_of_length_le (by rw [bl_len]; omega), ex]
    · rw [g1, ← List.take_succ_eq_append_getElem, List.take_of_length_le (by rw [bl_len]; omega), ey]
  | succ m ih =>
    intro x y hx hy ex ey
    rcases List.eq_nil_or_concat q with rfl | ⟨q', z, rfl⟩
    · simp at h
    · rw [List.concat_eq_append] at ex ey h
      have h : q'.length = m := by rw [List.length_append, List.length_singleton] at h; omega
      have lx : x.length = u.length + (q'.length + 1) := by rw [← bl_len, ex]; simp
      have ly : y.length = v.length + (q'.length + 1) := by rw [← bl_len, ey]; simp
      have ex' : bl (x.take (x.length - 1)) = u ++ q' := by
        have : bl (x.take (x.length - 1)) = (bl x).take (x.length - 1) := by simp [bl, List.map_take]
        rw [this, ex, lx, ← List.append_assoc, List.take_left' (by simp)]
      have ey' : bl (y.take (y.length - 1)) = v ++ q' := by
        have : bl (y.take (y.length - 1)) = (bl y).take (y.length - 1) := by simp [bl, List.map_take]
        rw [this, ey, ly, ← List.append_assoc, List.take_left' (by simp)]
      obtain ⟨o, n, e1, e2⟩ := ih q' h (x.take (x.length - 1)) (y.take (y.length - 1)) (by rw [List.length_take]; omega) (by rw [List.length_take]; omega) ex' ey'
      refine ⟨o, n, ev_off 1 ?_, e2⟩
      have w1 : wrap64 ((x.length : Int) - 1) = ((x.length - 1 : Nat) : Int) := by rw [wrap_id (by omega) (by omega)]; omega
      have w2 : wrap64 ((y.length : Int) - 1) = ((y.length - 1 : Nat) : Int) := by rw [wrap_id (by omega) (by omega)]; omega
      simp only [calamusref08_Diff.l1, w1, w2, Int.toNat_natCast]
      refine ev_pos (by omega) (ev_pos (by omega) (ev_pos (by omega) (ev_pos (by omega) (ev_pos (by omega) (ev_pos (by omega) (ev_pos ?_ (ev_pos (by omega) (ev_pos (by omega) e1))))))))
      rw [toList_inj]
      apply bytes_inj
      rw [bl_get x _ (by omega), bl_get y _ (by omega)]
      have gx : (bl x)[x.length - 1]? = some z := by rw [ex, ← List.append_assoc, List.getElem?_append_right (by simp; omega)]; simp [lx]
      have gy : (bl y)[y.length - 1]? = some z := by rw [ey, ← List.append_assoc, List.getElem?_append_right (by simp; omega)]; simp [ly]
      rw [List.getElem?_eq_getElem (by rw [bl_len]; omega)] at gx gy
      rw [Option.some.inj gx, Option.some.inj gy]
theorem rdiff_l0 {p a b u v q : List (List Int)} (hn : NoHead a b) (ea : a = u ++ q) (eb : b = v ++ q) (hl : NoLast u v) (x y : List ByteArray) (hx : x.length ≤ 3000) (hy : y.length ≤ 3000) (ex : bl x = p ++ a) (ey : bl y = p ++ b) (hfx : (p ++ a).flatten.length ≤ 3000) (hfy : (p ++ b).flatten.length ≤ 3000) (d : Nat) :
    ∀ i : Nat, i + d = p.length → ∃ o n, Ev (fun k => calamusref08_Diff.l0 k x y i) ((p.flatten.length : Int), o, n) ∧ bytesOf o = u.flatten ∧ bytesOf n = v.flatten := by
  have lx : x.length = p.length + a.length := by rw [← bl_len, ex]; simp
  have ly : y.length = p.length + b.length := by rw [← bl_len, ey]; simp
  have gx : ∀ i, (hi : i < x.length) → bytesOf (rdOf ByteArray.empty x (i : Int)) = (p ++ a)[i]'(by rw [← ex, bl_len]; exact hi) := fun i hi => bl_get_of ex i hi
  have gy : ∀ i, (hi : i < y.length) → bytesOf (rdOf ByteArray.empty y (i : Int)) = (p ++ b)[i]'(by rw [← ey, bl_len]; exact hi) := fun i hi => bl_get_of ey i hi
  induction d with
  | zero =>
    intro i hi
    obtain rfl : i = p.length := by omega
    have hp : bl (x.take p.length) = p := by
      have : bl (x.take p.length) = (bl x).take p.length := by simp [bl, List.map_take]
      rw [this, ex, List.take_left]
    have hdx : bl (x.drop p.length) = u ++ q := by
      have : bl (x.drop p.length) = (bl x).drop p.length := by simp [bl, List.map_drop]
      rw [this, ex, List.drop_left, ea]
    have hdy : bl (y.drop p.length) = v ++ q := by
      have : bl (y.drop p.length) = (bl y).drop p.length := by simp [bl, List.map_drop]
      rw [this, ey, List.drop_left, eb]
    have hpf : p.flatten.length ≤ 3000 := by have := flat_le (p := p) (q := p ++ a) rfl; omega
    obtain ⟨s, s1, s2⟩ := glue_is (x.take p.length) (by rw [hp]; exact hpf) (by rw [List.length_take]; omega)
    rw [hp] at s2
    have hss : s.size = p.flatten.length := by rw [← bytes_len, s2]
    have la : a.length = u.length + q.length := by rw [ea]; simp
    have lb : b.length = v.length + q.length := by rw [eb]; simp
    have hu : u.flatten.length ≤ 3000 := by
      have h1 := flat_le (p := u) (q := u ++ q) rfl
      rw [List.flatten_append, List.length_append, ea] at hfx
      omega
    have hv : v.flatten.length ≤ 3000 := by
      have h1 := flat_le (p := v) (q := v ++ q) rfl
      rw [List.flatten_append, List.length_append, eb] at hfy
      omega
    obtain ⟨o, n, e1, e2⟩ := rdiff_l1 (p.flatten.length : Int) hl hu hv (by omega) (by omega) q (x.drop p.length) (y.drop p.length) (by rw [List.length_drop]; omega) (by rw [List.length_drop]; omega) hdx hdy
    have j2 : Ev (fun k => calamusref08_Diff.j2 k x y (p.length : Int)) ((p.flatten.length : Int), o, n) := by
      refine ev_off 1 ?_
      simp only [calamusref08_Diff.j2, Int.toNat_natCast]
      refine ev_pos (by omega) (ev_pos (by omega) (ev_bind s1 (ev_pos (by omega) ?_)))
      rw [hss]; exact e1
    refine ⟨o, n, ev_off 1 ?_, e2⟩
    simp only [calamusref08_Diff.l0]
    by_cases h1 : p.length < x.length
    · refine ev_pos (by omega) ?_
      by_cases h2 : p.length < y.length
      · refine ev_pos (by omega) (ev_pos (by omega) (ev_neg ?_ j2))
        intro g
        rw [toList_inj] at g
        have g1 := congrArg bytesOf g
        rw [gx _ h1, gy _ h2, List.getElem_append_right (Nat.le_refl _), List.getElem_append_right (Nat.le_refl _)] at g1
        rcases a with _ | ⟨a0, a⟩
        · simp at lx; omega
        · rcases b with _ | ⟨b0, b⟩
          · simp at ly; omega
          · simp at g1
            exact hn a0 a b ⟨rfl, by rw [g1]⟩
      · exact ev_neg (by omega) j2
    · exact ev_neg (by omega) j2
  | succ d ih =>
    intro i hi
    obtain ⟨o, n, e1, e2⟩ := ih (i + 1) (by omega)
    have ew : wrap64 ((i : Int) + 1) = ((i + 1 : Nat) : Int) := by rw [wrap_id (by omega) (by omega)]; rfl
    refine ⟨o, n, ev_off 1 ?_, e2⟩
    simp only [calamusref08_Diff.l0, ew]
    refine ev_pos (by omega) (ev_pos (by omega) (ev_pos (by omega) (ev_pos ?_ e1)))
    rw [toList_inj]
    apply bytes_inj
    rw [gx _ (by omega), gy _ (by omega), List.getElem_append_left (by omega), List.getElem_append_left (by omega)]
end Go.Proofs.Ytkiokimpblimcaa.ChangeDiffsChange
