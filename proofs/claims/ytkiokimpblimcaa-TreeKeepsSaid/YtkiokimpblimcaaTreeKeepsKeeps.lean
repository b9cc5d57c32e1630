/- A node that is added to a tree: what it makes of the texts. The program's functions alone. In pieces. -/
import Derived.Test.YtkiokimpblimcaaTreeKeepsTree
namespace Go.Proofs.Ytkiokimpblimcaa.TreeKeepsKeeps
open Go.RowKit Go.Proofs.YtkiokimpblimcaaW.PrintWords Go.Proofs.YtkiokimpblimcaaW.PrintLast Go.Proofs.YtkiokimpblimcaaW.PrintMore
open Go.Proofs.Ytkiokimpblimcaa.PTreeKeeps Go.Proofs.Ytkiokimpblimcaa.Utf Go.Proofs.Ytkiokimpblimcaa.TreeKeepsUtf Go.Proofs.Ytkiokimpblimcaa.TreeKeepsChange Go.Proofs.Ytkiokimpblimcaa.Open
open Go.Proofs.Ytkiokimpblimcaa.TreeKeepsTree hiding wrap_id ev_const ev_off ev_bind ev_pos ev_neg lives_
set_option linter.unusedVariables false
set_option linter.unusedSimpArgs false

theorem lens_ {s : ByteArray} {p u q : List (List Int)} (es : bytesOf s = (p ++ (u ++ q)).flatten) : s.size = p.flatten.length + u.flatten.length + q.flatten.length := by
 rw [← bytes_len s, es]; simp; omega
theorem fits_yes {s o n : ByteArray} {p u v q : List (List Int)} (hr : All (p ++ (u ++ q))) (hv : All v) (es : bytesOf s = (p ++ (u ++ q)).flatten) (eo : bytesOf o = u.flatten) (en : bytesOf n = v.flatten) :
  Ev (fun k => change_Fits.f k s (p.flatten.length : Int) o n) true := by
 have hl := lens_ es
 have ho : o.size = u.flatten.length := by rw [← bytes_len, eo]
 have hp := place_yes (at_ := (p.flatten.length : Int)) (xs := p) (ys := u ++ q) hr es ⟨rfl, rfl⟩
 have hsz : (s.extract p.flatten.length s.size).size = s.size - p.flatten.length := by rw [ByteArray.size_extract]; omega
 have pre : strings_HasPrefix.f (s.extract p.flatten.length s.size) o = some true := by
  unfold strings_HasPrefix.f stringslite_HasPrefix.f
  rw [hsz, if_pos (by omega), if_pos (by omega), if_pos (by omega), Int.toNat_natCast, Option.bind_some]
  congr 1
  have ex : (s.extract p.flatten.length s.size).extract 0 o.size = o := by
   apply bytes_inj
   rw [bytes_extract, bytes_drop, es, eo, ho, List.flatten_append, List.flatten_append, List.drop_left, List.drop_zero, Nat.sub_zero, List.take_left]
  rw [ex]; simp
 unfold change_Fits.f
 refine ev_bind hp (ev_pos rfl (ev_bind (valid_yes ⟨u, hr.right.left, eo⟩) (ev_pos rfl (ev_bind (valid_yes ⟨v, hv, en⟩) (ev_pos rfl (ev_pos (by omega) (ev_pos (by omega) ?_)))))))
 simp only [Int.toNat_natCast, pre]
 exact Ev.now _
theorem do_yes {s t o n : ByteArray} {p u v q : List (List Int)} (hs : s.size ≤ 3000) (ht : t.size ≤ 3000) (hr : All (p ++ (u ++ q))) (hv : All v) (es : bytesOf s = (p ++ (u ++ q)).flatten) (et : bytesOf t = (p ++ (v ++ q)).flatten) (eo : bytesOf o = u.flatten) (en : bytesOf n = v.flatten) :
  Ev (fun k => change_Do.f k s ([(⟨(p.flatten.length : Int), o, n⟩ : S24)] : List S24)) (t, 0) := by
 have hl := lens_ es
 have hl' := lens_ et
 have ho : o.size = u.flatten.length := by rw [← bytes_len, eo]
 have hn : n.size = v.flatten.length := by rw [← bytes_len, en]
 have ew : wrap64 ((p.flatten.length : Int) + (o.size : Int)) = ((p.flatten.length + o.size : Nat) : Int) := by rw [wrap_id (by omega) (by omega)]; omega
 have s1 : (s.extract 0 p.flatten.length).size = p.flatten.length := by rw [ByteArray.size_extract]; omega
 have s2 : (s.extract (p.flatten.length + o.size) s.size).size = s.size - (p.flatten.length + o.size) := by rw [ByteArray.size_extract]; omega
 have s3 : (s.extract 0 p.flatten.length ++ n).size = p.flatten.length + n.size := by rw [ByteArray.size_append, s1]
 have r1 : s.extract 0 p.flatten.length ++ n ++ s.extract (p.flatten.length + o.size) s.size = t := by
  apply bytes_inj
  rw [bytes_append, bytes_append, bytes_extract, bytes_drop, es, et, en, ho, List.drop_zero, Nat.sub_zero]
  simp only [List.flatten_append]
  rw [List.take_left, ← List.append_assoc p.flatten u.flatten q.flatten, List.drop_left' (by simp), List.append_assoc]
 have one : Ev (fun k => change_one.f k s (p.flatten.length : Int) o n) (t, 0) := by
  unfold change_one.f
  simp only [ew, Int.toNat_natCast, r1]
  exact ev_bind (fits_yes hr hv es eo en) (ev_pos rfl (ev_pos (by omega) (ev_pos (by omega) (ev_pos (by omega) (ev_pos (by omega) (ev_pos (by omega) (ev_pos (by omega) (ev_neg (by omega) (Ev.now _)))))))))
 have w1 : wrap64 (0 + 1) = 1 := wrap_id (by omega) (by omega)
 unfold change_Do.f
 refine ev_off 1 ?_
 simp only [change_Do.l0, w1]
 refine ev_pos (by simp) (ev_pos (by simp) (ev_pos (by simp) (ev_bind one (ev_pos rfl ?_))))
 refine ev_off 1 ?_
 simp only [change_Do.l0]
 exact ev_neg (by simp) (Ev.now _)
theorem place_inside {s : ByteArray} {rs xs ys : List (List Int)} {at_ : Int} (e : bytesOf s = rs.flatten) (a : Is rs at_ xs ys) : 0 ≤ at_ ∧ at_ ≤ s.size ∧ at_.toNat = xs.flatten.length := by
 have hsz : s.size = rs.flatten.length := by rw [← e, bytes_len]
 rw [a.1, List.flatten_append, List.length_append] at hsz
 have := a.2
 omega
theorem fits_is (t : ByteArray) (c : S24) (ht : t.size ≤ 9000) (h1 : c.f1.size ≤ 9000) (h2 : c.f2.size ≤ 9000) : ∃ b, Ev (fun k => change_Fits.f k t c.f0 c.f1 c.f2) b ∧ (b = true → 0 ≤ c.f0 ∧ c.f0 + c.f1.size ≤ t.size) := by
 unfold change_Fits.f
 by_cases hv : Val (bytesOf t)
 ·obtain ⟨rs, h, e⟩ := hv
  by_cases hp : ∃ xs ys, Is rs c.f0 xs ys
  ·obtain ⟨xs, ys, a⟩ := hp
   obtain ⟨q0, q1, q2⟩ := place_inside e a
   have pl := place_yes h e a
   by_cases o : Val (bytesOf c.f1)
   ·by_cases n : Val (bytesOf c.f2)
    ·have hsz : (t.extract c.f0.toNat t.size).size = t.size - c.f0.toNat := by rw [ByteArray.size_extract]; omega
     by_cases g : c.f1.size ≤ t.size - c.f0.toNat
     ·have pre : ∃ b, strings_HasPrefix.f (t.extract c.f0.toNat t.size) c.f1 = some b := by
       unfold strings_HasPrefix.f stringslite_HasPrefix.f
       rw [hsz, if_pos (by omega), if_pos (by omega), if_pos (by omega), Option.bind_some]
       exact ⟨_, rfl⟩
      obtain ⟨b, pre⟩ := pre
      refine ⟨b, ev_bind pl (ev_pos rfl (ev_bind (valid_yes o) (ev_pos rfl (ev_bind (valid_yes n) (ev_pos rfl (ev_pos q0 (ev_pos q1 ?_))))))), fun _ => by omega⟩
      rw [pre]; exact Ev.now _
     ·have pre : strings_HasPrefix.f (t.extract c.f0.toNat t.size) c.f1 = some false := by
       unfold strings_HasPrefix.f stringslite_HasPrefix.f
       rw [hsz, if_neg (by omega)]; rfl
      refine ⟨false, ev_bind pl (ev_pos rfl (ev_bind (valid_yes o) (ev_pos rfl (ev_bind (valid_yes n) (ev_pos rfl (ev_pos q0 (ev_pos q1 ?_))))))), by simp⟩
      rw [pre]; exact Ev.now _
    ·exact ⟨false, ev_bind pl (ev_pos rfl (ev_bind (valid_yes o) (ev_pos rfl (ev_bind (valid_no n) (ev_neg (by simp) (Ev.now _)))))), by simp⟩
   ·exact ⟨false, ev_bind pl (ev_pos rfl (ev_bind (valid_no o) (ev_neg (by simp) (Ev.now _)))), by simp⟩
  ·exact ⟨false, ev_bind (place_not h e (fun xs ys a => hp ⟨xs, ys, a⟩)) (ev_neg (by simp) (Ev.now _)), by simp⟩
 ·exact ⟨false, ev_bind (place_bad hv) (ev_neg (by simp) (Ev.now _)), by simp⟩
theorem one_is (t : ByteArray) (c : S24) (ht : t.size ≤ 9000) (c1 : c.f1.size ≤ 9000) (c2 : c.f2.size ≤ 9000) : ∃ (s : ByteArray) (e : Int), s.size ≤ 4096 ∧ Ev (fun k => change_Do.f k t [c]) (s, e) := by
 obtain ⟨b, f1, f3⟩ := fits_is t c ht c1 c2
 have rd0 : rd_T24 [c] 0 = c := rfl
 have e1 : wrap64 ((0 : Int) + 1) = 1 := by rw [wrap_id (by omega) (by omega)]; rfl
 unfold change_Do.f
 have tail1 : ∀ s : ByteArray, Ev (fun k => change_Do.l0 k s [c] ([c].length : Int) 1) (s, 0) := fun s => by
  refine ev_off 1 ?_
  simp only [change_Do.l0]
  exact ev_neg (by simp) (Ev.now _)
 have one : ∀ r, Ev (fun k => change_one.f k t c.f0 c.f1 c.f2) r → r.2 ≠ 0 → Ev (fun k => change_Do.l0 k t [c] ([c].length : Int) 0) ((⟨#[]⟩ : ByteArray), r.2) := by
  intro r h1 h2
  refine ev_off 1 ?_
  simp only [change_Do.l0, rd0]
  exact ev_pos (by simp) (ev_pos (by simp) (ev_pos (by simp) (ev_bind h1 (ev_neg h2 (Ev.now _)))))
 cases b with
 | false =>
  refine ⟨(⟨#[]⟩ : ByteArray), 1, by decide, one ((⟨#[]⟩ : ByteArray), 1) ?_ (by simp)⟩
  unfold change_one.f
  exact ev_bind f1 (ev_neg (by simp) (Ev.now _))
 | true =>
  obtain ⟨g0, g1⟩ := f3 rfl
  have ew : wrap64 (c.f0 + (c.f1.size : Int)) = c.f0 + c.f1.size := by rw [wrap_id (by omega) (by omega)]
  have s1 : (t.extract 0 c.f0.toNat).size = c.f0.toNat := by rw [ByteArray.size_extract]; omega
  have s2 : (t.extract (c.f0 + (c.f1.size : Int)).toNat t.size).size = t.size - (c.f0 + (c.f1.size : Int)).toNat := by rw [ByteArray.size_extract]; omega
  have s3 : (t.extract 0 c.f0.toNat ++ c.f2).size = c.f0.toNat + c.f2.size := by rw [ByteArray.size_append, s1]
  have s4 : (t.extract 0 c.f0.toNat ++ c.f2 ++ t.extract (c.f0 + (c.f1.size : Int)).toNat t.size).size = c.f0.toNat + c.f2.size + (t.size - (c.f0 + (c.f1.size : Int)).toNat) := by rw [ByteArray.size_append, s3, s2]
  by_cases big : ((t.extract 0 c.f0.toNat ++ c.f2 ++ t.extract (c.f0 + (c.f1.size : Int)).toNat t.size).size : Int) > 4096
  ·refine ⟨(⟨#[]⟩ : ByteArray), 8, by decide, one ((⟨#[]⟩ : ByteArray), 8) ?_ (by simp)⟩
   unfold change_one.f
   simp only [ew]
   exact ev_bind f1 (ev_pos rfl (ev_pos g0 (ev_pos (by omega) (ev_pos (by omega) (ev_pos (by omega) (ev_pos (by omega) (ev_pos (by omega) (ev_pos big (Ev.now _)))))))))
  ·refine ⟨t.extract 0 c.f0.toNat ++ c.f2 ++ t.extract (c.f0 + (c.f1.size : Int)).toNat t.size, 0, by omega, ?_⟩
   refine ev_off 1 ?_
   simp only [change_Do.l0, rd0, e1]
   refine ev_pos (by simp) (ev_pos (by simp) (ev_pos (by simp) (ev_bind (a := (t.extract 0 c.f0.toNat ++ c.f2 ++ t.extract (c.f0 + (c.f1.size : Int)).toNat t.size, 0)) ?_ (ev_pos rfl (tail1 _)))))
   unfold change_one.f
   simp only [ew]
   exact ev_bind f1 (ev_pos rfl (ev_pos g0 (ev_pos (by omega) (ev_pos (by omega) (ev_pos (by omega) (ev_pos (by omega) (ev_pos (by omega) (ev_neg big (Ev.now _)))))))))
/-- What makes one text of another one, made, and turned back. -/
theorem diffdo (s t : ByteArray) (hs : s.size ≤ 3000) (ht : t.size ≤ 3000) : ∃ (c : S24) (u : ByteArray) (f : Int), Ev (fun k => change_Diff.f k s t) (c.f0, c.f1, c.f2) ∧ Ev (fun k => change_Do.f k s [c]) (u, f) ∧
  (f = 0 → u.size ≤ 3000 ∧ c.f1.size ≤ 3000 ∧ c.f2.size ≤ 3000 ∧ Ev (fun k => change_Do.f k u [(⟨c.f0, c.f2, c.f1⟩ : S24)]) (s, 0)) := by
 by_cases v1 : Val (bytesOf s)
 ·obtain ⟨rs, hrs, es⟩ := v1
  by_cases h0 : s = t ∨ ¬ Val (bytesOf t)
  ·have d := diff_none (s := s) (t := t) (h0.elim .inl (fun h => .inr (.inr h)))
   have y := do_yes (p := []) (u := []) (v := []) (q := rs) hs hs hrs (fun r h => by simp at h) es es bytes_empty bytes_empty
   exact ⟨⟨0, (⟨#[]⟩ : ByteArray), (⟨#[]⟩ : ByteArray)⟩, s, 0, d, y, fun _ => ⟨hs, by decide, by decide, y⟩⟩
  ·have hne : s ≠ t := fun h => h0 (.inl h)
   have v2 : Val (bytesOf t) := Classical.byContradiction fun h => h0 (.inr h)
   obtain ⟨ts, hts, et⟩ := v2
   obtain ⟨p, a, b, rfl, rfl, hn⟩ := common_head rs ts
   obtain ⟨q, u, v, rfl, rfl, hl⟩ := common_last a b
   obtain ⟨o, n, e1, e2, e3⟩ := diff_some hs ht hne hrs hts es et hn rfl rfl hl
   have so : o.size ≤ 3000 := by have := lens_ es; rw [← bytes_len o, e2]; omega
   have sn : n.size ≤ 3000 := by have := lens_ et; rw [← bytes_len n, e3]; omega
   exact ⟨⟨(p.flatten.length : Int), o, n⟩, t, 0, e1, do_yes hs ht hrs hts.right.left es et e2 e3, fun _ => ⟨ht, so, sn, do_yes ht hs hts hrs.right.left et es e3 e2⟩⟩
 ·have d := diff_none (s := s) (t := t) (.inr (.inl v1))
  refine ⟨⟨0, (⟨#[]⟩ : ByteArray), (⟨#[]⟩ : ByteArray)⟩, (⟨#[]⟩ : ByteArray), 1, d, ?_, by simp⟩
  have rd0 : ∀ c : S24, rd_T24 [c] 0 = c := fun _ => rfl
  unfold change_Do.f
  refine ev_off 1 ?_
  simp only [change_Do.l0, rd0]
  refine ev_pos (by simp) (ev_pos (by simp) (ev_pos (by simp) (ev_bind (a := ((⟨#[]⟩ : ByteArray), 1)) ?_ (ev_neg (by simp) (Ev.now _)))))
  unfold change_one.f change_Fits.f
  exact ev_bind (a := false) (ev_bind (place_bad v1) (ev_neg (by simp) (Ev.now _))) (ev_neg (by simp) (Ev.now _))
/-- A tree with a node more, at the one at which it is. -/
def addV (ns : List S69) (c : Nat) (x : S24) : List S69 := setNext ns c (ns.length : Int) ++ [⟨(c : Int), -1, 0, 0, x⟩]
theorem addV_length (ns : List S69) (c : Nat) (x : S24) : (addV ns c x).length = ns.length + 1 := by simp [addV, setNext_length]
theorem nd_addV (ns : List S69) (c : Nat) (x : S24) (i : Nat) (h : i < ns.length) : nd (addV ns c x) i = nd (setNext ns c (ns.length : Int)) i := by
 unfold addV nd
 rw [List.getD_eq_getElem?_getD, List.getElem?_append_left (by rw [setNext_length]; exact h), ← List.getD_eq_getElem?_getD]
theorem nd_addV_up (ns : List S69) (c : Nat) (x : S24) (i : Nat) (h : i < ns.length) : (nd (addV ns c x) i).f0 = (nd ns i).f0 ∧ (nd (addV ns c x) i).f2 = (nd ns i).f2 ∧ (nd (addV ns c x) i).f3 = (nd ns i).f3 ∧ (nd (addV ns c x) i).f4 = (nd ns i).f4 := by
 rw [nd_addV ns c x i h, nd_setNext]
 split
 ·rename_i q; rw [q.1]; exact ⟨rfl, rfl, rfl, rfl⟩
 ·exact ⟨rfl, rfl, rfl, rfl⟩
theorem nd_addV_new (ns : List S69) (c : Nat) (x : S24) : nd (addV ns c x) ns.length = ⟨(c : Int), -1, 0, 0, x⟩ := by
 unfold addV nd
 rw [List.getD_eq_getElem?_getD, List.getElem?_append_right (by rw [setNext_length]; exact Nat.le_refl _), setNext_length, Nat.sub_self]; rfl
theorem kid_addV {ns : List S69} {c : Nat} (hc : c < ns.length) (x : S24) (j : Nat) : Kid (addV ns c x) (ns.length + 1) j ↔ Kid ns ns.length j ∨ j = c := by
 rw [kid_succ]
 have e : (0 < ns.length ∧ (nd (addV ns c x) ns.length).f0 = (j : Int)) ↔ j = c := by
  rw [nd_addV_new]
  constructor
  ·rintro ⟨_, h⟩; have : (c : Int) = (j : Int) := h; omega
  ·rintro rfl; exact ⟨by omega, rfl⟩
 rw [e]
 have e2 : Kid (addV ns c x) ns.length j ↔ Kid ns ns.length j := by
  constructor
  ·rintro ⟨m, h1, h2, h3⟩; exact ⟨m, h1, h2, by rw [← (nd_addV_up ns c x m h2).1]; exact h3⟩
  ·rintro ⟨m, h1, h2, h3⟩; exact ⟨m, h1, h2, by rw [(nd_addV_up ns c x m h2).1]; exact h3⟩
 rw [e2]
theorem right_addV {ns : List S69} {c : Nat} (g : RightP ns (c : Int)) (x : S24) (hn : ns.length < 1024) : RightP (addV ns c x) (ns.length : Int) := by
 have hl := right_len g
 have hc := right_cur g
 have hcl : c < ns.length := by omega
 have al := addV_length ns c x
 obtain ⟨_, r, n0, x0⟩ := g
 refine ⟨⟨by omega, by omega, by omega, by omega⟩, ?_, fun j hj => ?_, fun j hj => ?_⟩
 ·obtain ⟨u0, u2, u3, u4⟩ := nd_addV_up ns c x 0 (by omega)
  unfold RootOk
  rw [u0, u2, u3, u4]
  exact r
 ·by_cases h : j < ns.length
  ·obtain ⟨u0, u2, u3, u4⟩ := nd_addV_up ns c x j h
   unfold NodeOk
   rw [u0, u2, u3]
   exact n0 j h
  ·obtain rfl : j = ns.length := by omega
   unfold NodeOk
   rw [nd_addV_new]
   exact fun _ => ⟨by simp, by simp; omega, by simp, by simp⟩
 ·rw [al] at hj
  unfold NextOk
  rw [al, kid_addV hcl]
  by_cases h : j < ns.length
  ·rw [nd_addV ns c x j h, nd_setNext]
   by_cases e : j = c
   ·subst e
    rw [if_pos ⟨rfl, h⟩]
    refine ⟨fun _ => ⟨by simp, by simp; omega, ?_⟩, fun q => absurd (.inr rfl) q⟩
    rw [show ((ns.length : Int)).toNat = ns.length from by simp, nd_addV_new]
   ·rw [if_neg (fun q => e q.1.symm)]
    refine ⟨fun q => ?_, fun q => (x0 j h).2 (fun k => q (.inl k))⟩
    have := (x0 j h).1 (q.elim id fun q => absurd q e)
    refine ⟨this.1, by omega, ?_⟩
    rw [(nd_addV_up ns c x _ (by omega)).1]
    exact this.2.2
  ·obtain rfl : j = ns.length := by omega
   rw [nd_addV_new]
   refine ⟨fun q => ?_, fun _ => rfl⟩
   rcases q with ⟨m, h1, h2, h3⟩ | q
   ·have := (n0 m h2 h1).2.1; omega
   ·omega
theorem ch_addV {ns : List S69} {c : Nat} (g : RightP ns (c : Int)) (x : S24) (k : Nat) : k < ns.length → ch (addV ns c x) k = ch ns k := by
 induction k using Nat.strongRecOn with
 | ind k ih =>
  intro hk
  rcases Nat.eq_zero_or_pos k with rfl | h0
  ·rw [ch_zero, ch_zero]
  ·have hu := right_up g hk h0
   have e := (nd_addV_up ns c x k hk).1
   rw [ch_pos g hk h0, ch, dif_pos ⟨h0, by rw [e]; omega⟩, e, ih _ (by omega) (by omega)]
theorem ch_addV_new {ns : List S69} {c : Nat} (g : RightP ns (c : Int)) (x : S24) : ch (addV ns c x) ns.length = ns.length :: ch ns c := by
 have hl := right_len g
 have hc := right_cur g
 rw [ch, nd_addV_new, dif_pos ⟨by omega, by simp; omega⟩]
 simp only [Int.toNat_natCast]
 rw [ch_addV g x c (by omega)]
theorem add_yes {ns : List S69} {c : Nat} (h : Ev (fun n => tree_check.f n ns (c : Int)) true) (g : RightP ns (c : Int)) (x : S24) (hn : ns.length < 1024) : Ev (fun n => tree_Add.f n ns (c : Int) x.f0 x.f1 x.f2 0 0) (addV ns c x, (ns.length : Int), 0) := by
 have hc := right_cur g
 unfold tree_Add.f
 refine ev_bind (open_is h) (ev_pos rfl (ev_neg (by simp) (ev_off 1 ?_)))
 simp only [tree_Add.j0, copy_is ns (c : Int) (by omega), Option.bind_some]
 refine ev_neg (by simp) (ev_neg (by omega) (ev_pos (by omega) (ev_pos hc.2 (ev_pos (by simp; omega) ?_))))
 exact Ev.now _
theorem ev_same {α : Type} {g : Nat → Option α} {r q : α} (h : Ev g r) (k : Ev g q) : r = q := by
 obtain ⟨m, h⟩ := h
 obtain ⟨n, k⟩ := k
 have h1 := h (max m n) (by omega)
 rw [k (max m n) (by omega)] at h1
 exact (Option.some.inj h1).symm
def Short (ns : List S69) : Prop := ∀ j, j < ns.length → (nd ns j).f4.f1.size ≤ 9000 ∧ (nd ns j).f4.f2.size ≤ 9000
def Small (o : List ByteArray) : Prop := ∀ j : Nat, (o.getD j ByteArray.empty).size ≤ 9000
theorem small_set {o : List ByteArray} (h : Small o) (i : Nat) (s : ByteArray) (hs : s.size ≤ 9000) : Small (o.set i s) := by
 intro j
 rw [List.getD_eq_getElem?_getD, List.getElem?_set]
 by_cases hij : i = j
 ·rw [if_pos hij]
  split
  ·simpa using hs
  ·exact Nat.zero_le _
 ·rw [if_neg hij, ← List.getD_eq_getElem?_getD]; exact h j
theorem getD_set_ne (o : List ByteArray) (i j : Nat) (s : ByteArray) (h : i ≠ j) : (o.set i s).getD j ByteArray.empty = o.getD j ByteArray.empty := by
 rw [List.getD_eq_getElem?_getD, List.getElem?_set, if_neg h, ← List.getD_eq_getElem?_getD]
theorem getD_set_eq (o : List ByteArray) (i : Nat) (s : ByteArray) (h : i < o.length) : (o.set i s).getD i ByteArray.empty = s := by
 rw [List.getD_eq_getElem?_getD, List.getElem?_set, if_pos rfl, if_pos h]; rfl
theorem getD_app (o : List ByteArray) (x : ByteArray) (i : Nat) (h : i < o.length) : (o ++ [x]).getD i ByteArray.empty = o.getD i ByteArray.empty := by
 rw [List.getD_eq_getElem?_getD, List.getElem?_append_left h, ← List.getD_eq_getElem?_getD]
theorem getD_appb (fl : List Bool) (i : Nat) (h : i < fl.length) : (fl ++ [true]).getD i false = fl.getD i false := by
 rw [List.getD_eq_getElem?_getD, List.getElem?_append_left h, ← List.getD_eq_getElem?_getD]
theorem getD_appn (fl : List Bool) : (fl ++ [true]).getD fl.length false = true := by
 rw [List.getD_eq_getElem?_getD, List.getElem?_append_right (Nat.le_refl _), Nat.sub_self]; rfl
theorem rdb (fl : List Bool) (i : Nat) : rdOf false fl (i : Int) = fl.getD i false := by simp [rdOf]
theorem getD_set_true (fl : List Bool) (k j : Nat) (hk : k < fl.length) : ((fl.set k true).getD j false = true) ↔ fl.getD j false = true ∨ j = k := by
 rw [List.getD_eq_getElem?_getD, List.getElem?_set, List.getD_eq_getElem?_getD]
 by_cases h : k = j
 ·subst h; rw [if_pos rfl, if_pos hk]; simp
 ·rw [if_neg h]; exact ⟨.inl, fun q => q.elim id fun q => absurd q.symm h⟩
theorem keep_l1 {ns : List S69} {c : Nat} (g : RightP ns (c : Int)) (sh : Short ns) (x : S24) (s0 : ByteArray) (fl : List Bool) (hf : fl.length = ns.length) (h0 : fl.getD 0 false = true) (d : Nat) :
  ∀ (i : Nat) (o : List ByteArray), i + d = ns.length → o.length = ns.length → Small o → ∃ v : List ByteArray × Int, Ev (fun k => tree_Texts.l1 k o fl ns (ns.length : Int) (i : Int)) v ∧
   (v.2 = 0 → v.1.length = ns.length ∧ (∀ j, j < ns.length → fl.getD j false = true → v.1.getD j ByteArray.empty = o.getD j ByteArray.empty) ∧ Ev (fun k => tree_Texts.l1 k (o ++ [s0]) (fl ++ [true]) (addV ns c x) ((addV ns c x).length : Int) (i : Int)) (v.1 ++ [s0], 0)) := by
 have hl := right_len g
 have al := addV_length ns c x
 have flen : (fl ++ [true]).length = ns.length + 1 := by simp [hf]
 induction d with
 | zero =>
  intro i o hi ho hs
  obtain rfl : i = ns.length := by omega
  have e1 : wrap64 ((ns.length : Int) + 1) = ((ns.length + 1 : Nat) : Int) := by rw [wrap_id (by omega) (by omega)]; rfl
  refine ⟨(o, 0), ev_off 1 ?_, fun _ => ⟨ho, fun _ _ _ => rfl, ev_off 1 ?_⟩⟩
  ·simp only [tree_Texts.l1]
   exact ev_neg (by omega) (Ev.now _)
  ·have q : rdOf false (fl ++ [true]) (ns.length : Int) = true := by rw [rdb, ← hf, getD_appn]
   simp only [tree_Texts.l1, q, e1]
   refine ev_pos (by omega) (ev_pos (by omega) (ev_pos (by omega) (ev_pos (by omega) (ev_pos trivial (ev_off 1 ?_)))))
   simp only [tree_Texts.l1]
   exact ev_neg (by omega) (Ev.now _)
 | succ d ih =>
  intro i o hi ho hs
  have e1 : wrap64 ((i : Int) + 1) = ((i + 1 : Nat) : Int) := by rw [wrap_id (by omega) (by omega)]; rfl
  have ua := nd_addV_up ns c x i (by omega)
  have ol : (o ++ [s0]).length = ns.length + 1 := by simp [ho]
  have ra : rdOf false (fl ++ [true]) (i : Int) = fl.getD i false := by rw [rdb, getD_appb fl i (by omega)]
  by_cases q : fl.getD i false = true
  ·obtain ⟨v, h1, h2⟩ := ih (i + 1) o (by omega) ho hs
   refine ⟨v, ev_off 1 ?_, fun hv => ⟨(h2 hv).1, (h2 hv).2.1, ev_off 1 ?_⟩⟩
   ·simp only [tree_Texts.l1, rdb, e1, q]
    exact ev_pos (by omega) (ev_pos (by omega) (ev_pos (by omega) (ev_pos (by omega) (ev_pos trivial h1))))
   ·simp only [tree_Texts.l1, ra, e1, q]
    exact ev_pos (by omega) (ev_pos (by omega) (ev_pos (by omega) (ev_pos (by omega) (ev_pos trivial (h2 hv).2.2))))
  ·have hi0 : 0 < i := by
    rcases Nat.eq_zero_or_pos i with rfl | h
    ·exact absurd h0 q
    ·exact h
   have hu := right_up g (j := i) (by omega) hi0
   obtain ⟨c1, c2⟩ := sh i (by omega)
   have er : ∀ o : List ByteArray, rdOf ByteArray.empty o (nd ns i).f0 = o.getD (nd ns i).f0.toNat ByteArray.empty := fun _ => rfl
   obtain ⟨s, e, b1, b2⟩ := one_is (o.getD (nd ns i).f0.toNat ByteArray.empty) (nd ns i).f4 (hs _) c1 c2
   by_cases he : e = 0
   ·obtain ⟨v, h3, h4⟩ := ih (i + 1) (o.set i s) (by omega) (by simpa using ho) (small_set hs i s (by omega))
    refine ⟨v, ev_off 1 ?_, fun hv => ⟨(h4 hv).1, fun j hj hfj => ?_, ev_off 1 ?_⟩⟩
    ·simp only [tree_Texts.l1, rdb, e1, rd_nd, er]
     exact ev_pos (by omega) (ev_pos (by omega) (ev_pos (by omega) (ev_pos (by omega) (ev_neg q (ev_pos hu.1 (ev_pos (by omega) (ev_bind b2 (ev_pos he (ev_pos (by omega) h3)))))))))
    ·rw [(h4 hv).2.1 j hj hfj]
     exact getD_set_ne o i j s (fun e => q (e ▸ hfj))
    ·have h5 := (h4 hv).2.2
     rw [show o.set i s ++ [s0] = (o ++ [s0]).set i s from by rw [List.set_append_left _ _ (by omega)]] at h5
     simp only [tree_Texts.l1, ra, e1, rd_nd, ua.1, ua.2.2.2, er]
     rw [getD_app o s0 _ (by omega)]
     exact ev_pos (by omega) (ev_pos (by omega) (ev_pos (by omega) (ev_pos (by omega) (ev_neg q (ev_pos hu.1 (ev_pos (by omega) (ev_bind b2 (ev_pos he (ev_pos (by omega) h5)))))))))
   ·refine ⟨([], e), ev_off 1 ?_, fun hv => absurd hv he⟩
    simp only [tree_Texts.l1, rdb, e1, rd_nd, er]
    exact ev_pos (by omega) (ev_pos (by omega) (ev_pos (by omega) (ev_pos (by omega) (ev_neg q (ev_pos hu.1 (ev_pos (by omega) (ev_bind b2 (ev_neg he (Ev.now _)))))))))
theorem keep_l0 {ns : List S69} {c : Nat} (g : RightP ns (c : Int)) (sh : Short ns) (x : S24) (s0 : ByteArray) (L : List Nat) (hL : L.length ≤ 1100) (k : Nat) : ∀ (pre : List Nat) (o : List ByteArray) (fl : List Bool) (t : ByteArray), k < ns.length → L = pre ++ ch ns k →
  o.length = ns.length → fl.length = ns.length → Small o → t.size ≤ 9000 →
  (∃ e : Int, e ≠ 0 ∧ Ev (fun n => tree_Texts.l0 n t o fl (ints L) (L.length : Int) (pre.length : Int) ns (c : Int) true) ([], e)) ∨
  ∃ (o' : List ByteArray) (fl' : List Bool), o'.length = ns.length ∧ fl'.length = ns.length ∧ Small o' ∧ fl'.getD 0 false = true ∧ fl'.getD k false = true ∧ o'.getD k ByteArray.empty = t ∧ (∀ j, k < j → o'.getD j ByteArray.empty = o.getD j ByteArray.empty ∧ fl'.getD j false = fl.getD j false) ∧
   (∀ r, Ev (fun n => tree_Texts.l1 n o' fl' ns (ns.length : Int) 0) r → Ev (fun n => tree_Texts.l0 n t o fl (ints L) (L.length : Int) (pre.length : Int) ns (c : Int) true) r) ∧
   (∀ r, Ev (fun n => tree_Texts.l1 n (o' ++ [s0]) (fl' ++ [true]) (addV ns c x) ((addV ns c x).length : Int) 0) r → Ev (fun n => tree_Texts.l0 n t (o ++ [s0]) (fl ++ [true]) (ints (ns.length :: L)) ((ns.length :: L).length : Int) ((ns.length :: pre).length : Int) (addV ns c x) (ns.length : Int) true) r) := by
 have hl := right_len g
 have al := addV_length ns c x
 have ll := ints_length L
 have ll2 := ints_length (ns.length :: L)
 have lc : (ns.length :: L).length = L.length + 1 := rfl
 induction k using Nat.strongRecOn with
 | ind k ih =>
  intro pre o fl t hk eL ho hf hs ht
  obtain ⟨T, hT⟩ := ch_head ns k
  have hpl : pre.length < L.length := by rw [eL, hT]; simp
  have lp : (ns.length :: pre).length = pre.length + 1 := rfl
  have r1 : rd (ints L) (pre.length : Int) = (k : Int) := by
   rw [rd_ints L _ hpl]
   simp only [eL, hT, List.getElem_append_right (Nat.le_refl _), Nat.sub_self, List.getElem_cons_zero]
  have r2 : rd (ints (ns.length :: L)) ((ns.length :: pre).length : Int) = (k : Int) := by
   rw [rd_ints (ns.length :: L) _ (by omega)]
   simp only [lp, List.getElem_cons_succ, eL, hT, List.getElem_append_right (Nat.le_refl _), Nat.sub_self, List.getElem_cons_zero]
  have e2 : wrap64 ((pre.length : Int) + 1) = (((pre ++ [k]).length : Nat) : Int) := by rw [wrap_id (by omega) (by omega)]; simp
  have e3 : wrap64 (((ns.length :: pre).length : Int) + 1) = (((ns.length :: (pre ++ [k])).length : Nat) : Int) := by rw [wrap_id (by omega) (by omega)]; simp
  have ol : (o ++ [s0]).length = ns.length + 1 := by simp [ho]
  have fll : (fl ++ [true]).length = ns.length + 1 := by simp [hf]
  have so : (o ++ [s0]).set k t = o.set k t ++ [s0] := by rw [List.set_append_left _ _ (by omega)]
  have sf : (fl ++ [true]).set k true = fl.set k true ++ [true] := by rw [List.set_append_left _ _ (by omega)]
  have ua := nd_addV_up ns c x k hk
  have fk : (fl.set k true).getD k false = true := (getD_set_true fl k k (by omega)).2 (.inr rfl)
  have fne : ∀ j, k < j → (fl.set k true).getD j false = fl.getD j false := fun j hj => by
   rw [List.getD_eq_getElem?_getD, List.getElem?_set, if_neg (by omega), ← List.getD_eq_getElem?_getD]
  rcases Nat.eq_zero_or_pos k with rfl | h0
  ·refine .inr ⟨o.set 0 t, fl.set 0 true, by simpa using ho, by simpa using hf, small_set hs 0 t ht, fk, fk, getD_set_eq o 0 t (by omega), fun j hj => ⟨getD_set_ne o 0 j t (by omega), fne j hj⟩, fun r h => ev_off 1 ?_, fun r h => ev_off 1 ?_⟩
   ·simp only [tree_Texts.l0, r1, Option.bind_some]
    refine ev_pos (by omega) (ev_pos (by omega) (ev_pos (by omega) (ev_pos (by omega) (ev_pos (by omega) (ev_pos (by omega) (ev_pos (by omega) (ev_off 1 ?_)))))))
    simp only [tree_Texts.j1]
    exact h
   ·rw [← so, ← sf] at h
    simp only [tree_Texts.l0, r2, Option.bind_some]
    refine ev_pos (by omega) (ev_pos (by omega) (ev_pos (by omega) (ev_pos (by omega) (ev_pos (by omega) (ev_pos (by omega) (ev_pos (by omega) (ev_off 1 ?_)))))))
    simp only [tree_Texts.j1]
    exact h
  ·have hu := right_up g hk h0
   have hch := ch_pos g hk h0
   obtain ⟨c1, c2⟩ := sh k hk
   obtain ⟨s, e, b1, b2⟩ := one_is t ⟨(nd ns k).f4.f0, (nd ns k).f4.f2, (nd ns k).f4.f1⟩ ht c2 c1
   have st : (o.set k t).length = ns.length := by simpa using ho
   by_cases he : e = 0
   ·have go1 : ∀ r, Ev (fun n => tree_Texts.l0 n s (o.set k t) (fl.set k true) (ints L) (L.length : Int) ((pre ++ [k]).length : Int) ns (c : Int) true) r → Ev (fun n => tree_Texts.l0 n t o fl (ints L) (L.length : Int) (pre.length : Int) ns (c : Int) true) r := fun r h => by
     refine ev_off 1 ?_
     simp only [tree_Texts.l0, r1, e2, Option.bind_some, rd_nd, change_Turn.f]
     exact ev_pos (by omega) (ev_pos (by omega) (ev_pos (by omega) (ev_pos (by omega) (ev_pos (by omega) (ev_pos (by omega) (ev_neg (by omega) (ev_pos (by omega) (ev_bind b2 (ev_pos he h)))))))))
    have go2 : ∀ r, Ev (fun n => tree_Texts.l0 n s (o.set k t ++ [s0]) (fl.set k true ++ [true]) (ints (ns.length :: L)) ((ns.length :: L).length : Int) ((ns.length :: (pre ++ [k])).length : Int) (addV ns c x) (ns.length : Int) true) r → Ev (fun n => tree_Texts.l0 n t (o ++ [s0]) (fl ++ [true]) (ints (ns.length :: L)) ((ns.length :: L).length : Int) ((ns.length :: pre).length : Int) (addV ns c x) (ns.length : Int) true) r := fun r h => by
     rw [← so, ← sf] at h
     refine ev_off 1 ?_
     simp only [tree_Texts.l0, r2, e3, Option.bind_some, rd_nd, change_Turn.f, ua.2.2.2]
     exact ev_pos (by omega) (ev_pos (by omega) (ev_pos (by omega) (ev_pos (by omega) (ev_pos (by omega) (ev_pos (by omega) (ev_neg (by omega) (ev_pos (by omega) (ev_bind b2 (ev_pos he h)))))))))
    rcases ih (nd ns k).f0.toNat (by omega) (pre ++ [k]) (o.set k t) (fl.set k true) s (by omega) (by rw [eL, hch]; simp) st (by simpa using hf) (small_set hs k t ht) (by omega) with ⟨e', i0, i1⟩ | ⟨o', fl', i1, i2, i3, i4, i5, i6, i7, i8, i9⟩
    ·exact .inl ⟨e', i0, go1 _ i1⟩
    ·refine .inr ⟨o', fl', i1, i2, i3, i4, ?_, ?_, fun j hj => ?_, fun r h => go1 r (i8 r h), fun r h => go2 r (i9 r h)⟩
     ·rw [(i7 k (by omega)).2, fk]
     ·rw [(i7 k (by omega)).1, getD_set_eq o k t (by omega)]
     ·rw [(i7 j (by omega)).1, (i7 j (by omega)).2, getD_set_ne o k j t (by omega), fne j hj]
      exact ⟨rfl, rfl⟩
   ·refine .inl ⟨e, he, ev_off 1 ?_⟩
    simp only [tree_Texts.l0, r1, e2, Option.bind_some, rd_nd, change_Turn.f]
    exact ev_pos (by omega) (ev_pos (by omega) (ev_pos (by omega) (ev_pos (by omega) (ev_pos (by omega) (ev_pos (by omega) (ev_neg (by omega) (ev_pos (by omega) (ev_bind b2 (ev_neg he (Ev.now _))))))))))
theorem small_rep (n : Nat) : Small (List.replicate n (⟨#[]⟩ : ByteArray)) := by
 intro j
 rw [List.getD_eq_getElem?_getD, List.getElem?_replicate]
 split
 ·exact Nat.zero_le _
 ·exact Nat.zero_le _
theorem texts_some {ns : List S69} {c : Nat} (h : Ev (fun n => tree_check.f n ns (c : Int)) true) (g : RightP ns (c : Int)) (sh : Short ns) (t : ByteArray) (ht : t.size ≤ 9000) : ∃ v, Ev (fun n => tree_Texts.f n ns (c : Int) t) v := by
 have hl := right_len g
 have hc := right_cur g
 have hcl := ch_length ns c
 have gt : ∀ r, Ev (fun n => tree_Texts.l0 n t (List.replicate ns.length (⟨#[]⟩ : ByteArray)) (List.replicate ns.length false) (ints (ch ns c)) ((ch ns c).length : Int) (([] : List Nat).length : Int) ns (c : Int) true) r → Ev (fun n => tree_Texts.f n ns (c : Int) t) r := fun r q => by
  unfold tree_Texts.f
  refine ev_bind (open_is h) (ev_pos rfl (ev_pos (by simp) (ev_pos (by simp; omega) (ev_pos (by simp; omega) (ev_bind (up_is g c (by omega)) ?_)))))
  simp only [Int.toNat_natCast, ints_length]
  exact q
 rcases keep_l0 g sh z24 ByteArray.empty (ch ns c) (by omega) c [] (List.replicate ns.length (⟨#[]⟩ : ByteArray)) (List.replicate ns.length false) t (by omega) rfl (by simp) (by simp) (small_rep _) ht with ⟨e, i0, i1⟩ | ⟨o', fl', i1, i2, i3, i4, i5, i6, i7, i8, i9⟩
 ·exact ⟨([], e), gt _ i1⟩
 ·obtain ⟨v, v1, v2⟩ := keep_l1 g sh z24 ByteArray.empty fl' i2 i4 ns.length 0 o' (by omega) i1 i3
  exact ⟨v, gt _ (i8 _ v1)⟩
/-- The texts of a tree; and of it with a node more, whose change leads back. -/
theorem keep_is {ns : List S69} {c : Nat} (h : Ev (fun n => tree_check.f n ns (c : Int)) true) (g : RightP ns (c : Int)) (sh : Short ns) (hn : ns.length < 1024) (t : ByteArray) (ht : t.size ≤ 9000) (x : S24) (s0 : ByteArray)
  (h2 : Ev (fun n => tree_check.f n (addV ns c x) (ns.length : Int)) true) (hb : Ev (fun k => change_Do.f k s0 [(⟨x.f0, x.f2, x.f1⟩ : S24)]) (t, 0)) :
  ∃ v : List ByteArray × Int, Ev (fun n => tree_Texts.f n ns (c : Int) t) v ∧ (v.2 = 0 → v.1.length = ns.length ∧ v.1.getD c ByteArray.empty = t ∧ Ev (fun n => tree_Texts.f n (addV ns c x) (ns.length : Int) s0) (v.1 ++ [s0], 0)) := by
 have hl := right_len g
 have hc := right_cur g
 have hcl := ch_length ns c
 have g2 := right_addV g x hn
 have al := addV_length ns c x
 have ll2 := ints_length (ns.length :: ch ns c)
 have gt : ∀ r, Ev (fun n => tree_Texts.l0 n t (List.replicate ns.length (⟨#[]⟩ : ByteArray)) (List.replicate ns.length false) (ints (ch ns c)) ((ch ns c).length : Int) (([] : List Nat).length : Int) ns (c : Int) true) r → Ev (fun n => tree_Texts.f n ns (c : Int) t) r := fun r q => by
  unfold tree_Texts.f
  refine ev_bind (open_is h) (ev_pos rfl (ev_pos (by simp) (ev_pos (by simp; omega) (ev_pos (by simp; omega) (ev_bind (up_is g c (by omega)) ?_)))))
  simp only [Int.toNat_natCast, ints_length]
  exact q
 have gu : ∀ r, Ev (fun n => tree_Texts.l0 n t (List.replicate ns.length (⟨#[]⟩ : ByteArray) ++ [s0]) (List.replicate ns.length false ++ [true]) (ints (ns.length :: ch ns c)) ((ns.length :: ch ns c).length : Int) ((ns.length :: ([] : List Nat)).length : Int) (addV ns c x) (ns.length : Int) true) r → Ev (fun n => tree_Texts.f n (addV ns c x) (ns.length : Int) s0) r := fun r q => by
  unfold tree_Texts.f
  refine ev_bind (open_is h2) (ev_pos rfl (ev_pos (by simp) (ev_pos (by simp; omega) (ev_pos (by simp; omega) (ev_bind (up_is g2 ns.length (by omega)) ?_)))))
  rw [ch_addV_new g x]
  simp only [Int.toNat_natCast, al]
  have r1 : rd (ints (ns.length :: ch ns c)) 0 = (ns.length : Int) := rfl
  have so : (List.replicate (ns.length + 1) (⟨#[]⟩ : ByteArray)).set ns.length s0 = List.replicate ns.length (⟨#[]⟩ : ByteArray) ++ [s0] := by
   rw [List.replicate_succ', List.set_append_right _ _ (by simp)]; simp
  have sf : (List.replicate (ns.length + 1) false).set ns.length true = List.replicate ns.length false ++ [true] := by
   rw [List.replicate_succ', List.set_append_right _ _ (by simp)]; simp
  have e1 : wrap64 ((0 : Int) + 1) = ((ns.length :: ([] : List Nat)).length : Int) := by rw [wrap_id (by omega) (by omega)]; rfl
  refine ev_off 1 ?_
  simp only [tree_Texts.l0, r1, Int.toNat_natCast, so, sf, Option.bind_some, rd_nd, change_Turn.f, e1, nd_addV_new, ll2]
  exact ev_pos (by simp) (ev_pos (by simp) (ev_pos (by simp) (ev_pos (by omega) (ev_pos (by simp; omega) (ev_pos (by simp; omega) (ev_neg (by omega) (ev_pos (by omega) (ev_bind hb (ev_pos rfl q)))))))))
 rcases keep_l0 g sh x s0 (ch ns c) (by omega) c [] (List.replicate ns.length (⟨#[]⟩ : ByteArray)) (List.replicate ns.length false) t (by omega) rfl (by simp) (by simp) (small_rep _) ht with ⟨e, i0, i1⟩ | ⟨o', fl', i1, i2, i3, i4, i5, i6, i7, i8, i9⟩
 ·exact ⟨([], e), gt _ i1, fun q => absurd q i0⟩
 ·obtain ⟨v, v1, v2⟩ := keep_l1 g sh x s0 fl' i2 i4 ns.length 0 o' (by omega) i1 i3
  refine ⟨v, gt _ (i8 _ v1), fun q => ⟨(v2 q).1, ?_, gu _ (i9 _ (v2 q).2.2)⟩⟩
  rw [(v2 q).2.1 c (by omega) i5, i6]
end Go.Proofs.Ytkiokimpblimcaa.TreeKeepsKeeps
