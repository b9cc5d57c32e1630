/- What the printed functions of layer 8, the program's and the document's, tell.
  Template: Ytkiokimpblimcaa the seat's name, TreeTexts the law's key; in pieces. -/
import Derived.Test.YtkiokimpblimcaaTreeTextsUtf
namespace Go.Proofs.Ytkiokimpblimcaa.TreeTextsChange
open Go.RowKit Go.Proofs.YtkiokimpblimcaaW.PrintWords Go.Proofs.YtkiokimpblimcaaW.PrintLast Go.Proofs.YtkiokimpblimcaaW.PrintMore
open Go.Proofs.Ytkiokimpblimcaa.PTreeTexts Go.Proofs.Ytkiokimpblimcaa.Utf Go.Proofs.Ytkiokimpblimcaa.TreeTextsUtf Go.Proofs.Ytkiokimpblimcaa.Open
set_option linter.unusedVariables false
set_option linter.unusedSimpArgs false

theorem rvalid_of {s : ByteArray} {l : List Int} (h : Ev (fun k => calamusref03_Split.f k s) l) : Ev (fun k => calamusref03_Valid.f k s) (decide ((l.length : Int) > 0)) := by
 unfold calamusref03_Valid.f
 exact ev_bind h (Ev.now _)
theorem valid_both (s : ByteArray) (hs : s.size ≤ 10000000000) : ∃ b, Ev (fun k => utf_Valid.f k s) b ∧ Ev (fun k => calamusref03_Valid.f k s) b ∧ (b = true ↔ Val (bytesOf s)) := by
 by_cases hv : Val (bytesOf s)
 ·obtain ⟨rs, h, e⟩ := hv
  have := rvalid_of (split_yes (by omega) h e)
  rw [decide_eq_true (by rw [cum_length]; omega)] at this
  exact ⟨true, valid_yes ⟨rs, h, e⟩, this, by simp; exact ⟨rs, h, e⟩⟩
 ·have := rvalid_of (split_no (by omega) hv)
  rw [decide_eq_false (by simp)] at this
  exact ⟨false, valid_no hv, this, by simp [hv]⟩
theorem rplace_is {s : ByteArray} {at_ r : Int} {l : List Int} (h : Ev (fun k => calamusref03_Split.f k s) l) (f : Ev (fun k => calamusref03_find.f k l at_) r) : Ev (fun k => calamusref03_Place.f k s at_) (decide (r ≥ 0)) := by
 unfold calamusref03_Place.f
 exact ev_bind h (ev_bind f (Ev.now _))
theorem place_both (s : ByteArray) (at_ : Int) (hs : s.size ≤ 10000000000) : ∃ b, Ev (fun k => utf_Place.f k s at_) b ∧ Ev (fun k => calamusref03_Place.f k s at_) b ∧ (b = true → ∃ rs xs ys, All rs ∧ bytesOf s = rs.flatten ∧ Is rs at_ xs ys) := by
 by_cases hv : Val (bytesOf s)
 ·obtain ⟨rs, h, e⟩ := hv
  have hl := flat_len rs h
  rw [← e, bytes_len] at hl
  have sp := split_yes (by omega) h e
  by_cases hp : ∃ xs ys, Is rs at_ xs ys
  ·obtain ⟨xs, ys, a⟩ := hp
   have := rplace_is sp (find_yes h (by omega) a)
   rw [decide_eq_true (by omega)] at this
   exact ⟨true, place_yes h e a, this, fun _ => ⟨rs, xs, ys, h, e, a⟩⟩
  ·have hp' : ∀ xs ys, ¬ Is rs at_ xs ys := fun xs ys a => hp ⟨xs, ys, a⟩
   have := rplace_is sp (find_no (by omega) hp')
   rw [decide_eq_false (by omega)] at this
   exact ⟨false, place_not h e hp', this, fun h => by simp at h⟩
 ·have := rplace_is (split_no (by omega) hv) (find_nil at_)
  rw [decide_eq_false (by omega)] at this
  exact ⟨false, place_bad hv, this, fun h => by simp at h⟩
theorem place_in_text {s : ByteArray} {rs xs ys : List (List Int)} {at_ : Int} (e : bytesOf s = rs.flatten) (a : Is rs at_ xs ys) : 0 ≤ at_ ∧ at_ ≤ s.size ∧ at_.toNat = xs.flatten.length := by
 have hsz : s.size = rs.flatten.length := by rw [← e, bytes_len]
 rw [a.1, List.flatten_append, List.length_append] at hsz
 have := a.2
 omega
theorem fits_both (t : ByteArray) (c : S24) (ht : t.size ≤ 9000) (h1 : c.f1.size ≤ 9000) (h2 : c.f2.size ≤ 9000) (hc : bInt .i64 c.f0) :
  ∃ b, Ev (fun k => change_Fits.f k t c.f0 c.f1 c.f2) b ∧ Ev (fun k => calamusref08_Fits.f k t c.f0 c.f1 c.f2) b ∧ (b = true → 0 ≤ c.f0 ∧ c.f0 + c.f1.size ≤ t.size) := by
 obtain ⟨v, v1, v2, v3⟩ := valid_both t (by omega)
 obtain ⟨o, o1, o2, _⟩ := valid_both c.f1 (by omega)
 obtain ⟨n, n1, n2, _⟩ := valid_both c.f2 (by omega)
 obtain ⟨p, p1, p2, p3⟩ := place_both t c.f0 (by omega)
 have hr := i64_range hc
 unfold change_Fits.f calamusref08_Fits.f
 cases p with
 | false =>
  refine ⟨false, ev_bind p1 (ev_neg (by simp) (Ev.now _)), ?_, by simp⟩
  refine ev_bind v2 ?_
  cases v
  ·exact ev_neg (by simp) (Ev.now _)
  refine ev_pos rfl (ev_bind o2 ?_)
  cases o
  ·exact ev_neg (by simp) (Ev.now _)
  refine ev_pos rfl (ev_bind n2 ?_)
  cases n
  ·exact ev_neg (by simp) (Ev.now _)
  exact ev_pos rfl (ev_bind p2 (ev_neg (by simp) (Ev.now _)))
 | true =>
  obtain ⟨rs, xs, ys, hrs, e, a⟩ := p3 rfl
  obtain rfl : v = true := v3.2 ⟨rs, hrs, e⟩
  obtain ⟨q0, q1, q2⟩ := place_in_text e a
  cases o with
  | false => exact ⟨false, ev_bind p1 (ev_pos rfl (ev_bind o1 (ev_neg (by simp) (Ev.now _)))), ev_bind v2 (ev_pos rfl (ev_bind o2 (ev_neg (by simp) (Ev.now _)))), by simp⟩
  | true =>
   cases n with
   | false => exact ⟨false, ev_bind p1 (ev_pos rfl (ev_bind o1 (ev_pos rfl (ev_bind n1 (ev_neg (by simp) (Ev.now _)))))), ev_bind v2 (ev_pos rfl (ev_bind o2 (ev_pos rfl (ev_bind n2 (ev_neg (by simp) (Ev.now _)))))), by simp⟩
   | true =>
    have hsz : (t.extract c.f0.toNat t.size).size = t.size - c.f0.toNat := by rw [ByteArray.size_extract]; omega
    have pre : strings_HasPrefix.f (t.extract c.f0.toNat t.size) c.f1 = some (decide (c.f1.size ≤ t.size - c.f0.toNat ∧ t.extract c.f0.toNat (c.f0.toNat + c.f1.size) = c.f1)) := by
     unfold strings_HasPrefix.f stringslite_HasPrefix.f
     rw [hsz]
     by_cases g : c.f1.size ≤ t.size - c.f0.toNat
     ·rw [if_pos (by omega), if_pos (by omega), if_pos (by omega), Int.toNat_natCast, Option.bind_some]
      congr 1
      have ex : (t.extract c.f0.toNat t.size).extract 0 c.f1.size = t.extract c.f0.toNat (c.f0.toNat + c.f1.size) := by
       apply bytes_inj
       rw [bytes_extract, bytes_drop, bytes_extract, List.drop_zero, Nat.sub_zero, Nat.add_sub_cancel_left]
      rw [ex, Bool.eq_iff_iff, beq_iff_eq, decide_eq_true_iff, toList_inj]
      simp [g]
     ·rw [if_neg (by omega), decide_eq_false (fun h => g h.1)]; rfl
    refine ⟨decide (c.f1.size ≤ t.size - c.f0.toNat ∧ t.extract c.f0.toNat (c.f0.toNat + c.f1.size) = c.f1), ev_bind p1 (ev_pos rfl (ev_bind o1 (ev_pos rfl (ev_bind n1 (ev_pos rfl (ev_pos q0 (ev_pos q1 ?_))))))), ev_bind v2 (ev_pos rfl (ev_bind o2 (ev_pos rfl (ev_bind n2 (ev_pos rfl (ev_bind p2 (ev_pos rfl ?_))))))), fun h => ?_⟩
    ·rw [pre]; exact Ev.now _
    ·rw [wrap_id (x := (t.size : Int) - c.f0) (by omega) (by omega), wrap_id (x := c.f0 + (c.f1.size : Int)) (by omega) (by omega)]
     by_cases g : c.f1.size ≤ t.size - c.f0.toNat
     ·refine ev_pos (by omega) (ev_pos q0 (ev_pos (by omega) (ev_pos (by omega) ?_)))
      refine ev_const fun k => ?_
      congr 1
      rw [show (c.f0 + (c.f1.size : Int)).toNat = c.f0.toNat + c.f1.size from by omega, Bool.eq_iff_iff, beq_iff_eq, decide_eq_true_iff, toList_inj]
      simp [g]
     ·rw [decide_eq_false (fun h => g h.1)]
      exact ev_neg (by omega) (Ev.now _)
    ·have := (of_decide_eq_true h).1
     omega
end Go.Proofs.Ytkiokimpblimcaa.TreeTextsChange
