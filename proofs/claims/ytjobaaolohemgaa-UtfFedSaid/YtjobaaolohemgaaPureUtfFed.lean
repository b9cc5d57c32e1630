/- UtfFed: fed byte by byte a valid text gives its runes, and only such a one does. -/
import Derived.Test.YtjobaaolohemgaaUtfFedUtf
namespace Go.Proofs.Ytjobaaolohemgaa.Pure
open Go.RowKit Go.Proofs.YtjobaaolohemgaaW.PrintWords Go.Proofs.YtjobaaolohemgaaW.PrintLast Go.Proofs.YtjobaaolohemgaaW.PrintMore
open Go.Proofs.Ytjobaaolohemgaa.PUtfFed Go.Proofs.Ytjobaaolohemgaa.Utf Go.Proofs.Ytjobaaolohemgaa.UtfFedUtf

theorem lives_ : Ev (fun k => calamuslaw03_lives.f k) true := Ev.of calamuslaw03_lives.mono (k := 30) (by decide +kernel)

theorem fed_bad {s : ByteArray} (h : ¬ Val (bytesOf s)) (half out : ByteArray) (i : Int) : Ev (fun k => calamuslaw03_UtfFed.l0 k s half out false i) true := by
  by_cases hi : i < (s.size : Int)
  · refine Ev.step (f := fun k => (utf_Valid.f k s).bind fun t132 => (if (t132 == false) = true then ((calamuslaw03_lives.f k).bind fun t133 => (some t133)) else (some false))) (fun k => ?_) ?_
    · rw [calamuslaw03_UtfFed.l0, if_pos hi, if_neg (by simp)]
    · exact ev_bind (valid_no h) (ev_pos (by simp) (ev_bind lives_ (Ev.now _)))
  · refine Ev.step (f := fun k => (utf_Valid.f k s).bind fun t132 => (if (t132 == false) = true then ((calamuslaw03_lives.f k).bind fun t133 => (some t133)) else (some false))) (fun k => ?_) ?_
    · rw [calamuslaw03_UtfFed.l0, if_neg hi]
      simp
    · exact ev_bind (valid_no h) (ev_pos (by simp) (ev_bind lives_ (Ev.now _)))
theorem val_append {a b : List Int} (h : Val a) : Val (a ++ b) ↔ Val b := by
  obtain ⟨rs, hs, rfl⟩ := h
  induction rs with
  | nil => simp
  | cons r rs ih => rw [List.flatten_cons, List.append_assoc, val_one hs.head, ih hs.tail]
theorem fed_l (s : ByteArray) (hs : s.size ≤ 140737488351232) (d : Nat) : ∀ (i : Nat) (half out : ByteArray), i + d = s.size → (bytesOf s).take i = bytesOf out ++ bytesOf half → Val (bytesOf out) → (bytesOf half = [] ∨ Half (bytesOf half)) →
    Ev (fun k => calamuslaw03_UtfFed.l0 k s half out true i) true := by
  have hlen := bytes_len s
  induction d with
  | zero =>
    intro i half out hi e hv hh
    rw [List.take_of_length_le (by omega)] at e
    refine Ev.step (f := fun k => (utf_Valid.f k s).bind fun t134 => (if half.toList = ([] : List UInt8) then (if (t134 == (out.toList == s.toList)) = true then ((calamuslaw03_lives.f k).bind fun t135 => (some t135)) else (some false)) else (if (t134 == false) = true then ((calamuslaw03_lives.f k).bind fun t136 => (some t136)) else (some false)))) (fun k => ?_) ?_
    · rw [calamuslaw03_UtfFed.l0, if_neg (by omega)]
      simp
    · rcases hh with hh | hh
      · rw [hh, List.append_nil] at e
        obtain rfl := bytes_inj e
        refine ev_bind (valid_yes hv) (ev_pos ((toList_nil half).2 hh) (ev_pos (by simp) (ev_bind lives_ (Ev.now _))))
      · have hn : ¬ Val (bytesOf s) := by rw [e, val_append hv]; exact val_half hh
        refine ev_bind (valid_no hn) (ev_neg (fun g => ?_) (ev_pos (by simp) (ev_bind lives_ (Ev.now _))))
        rw [toList_nil] at g
        rw [g] at hh; simp [Half] at hh
  | succ d ih =>
    intro i half out hi e hv hh
    have hb := bt_range s i
    have hget : (bytesOf s).take (i + 1) = (bytesOf s).take i ++ [bt s i] := by
      rw [List.take_succ_eq_append_getElem (by omega), bytes_get, Int.toNat_natCast, List.getD_eq_getElem?_getD, List.getElem?_eq_getElem (by omega)]; rfl
    have hlo := congrArg List.length e
    rw [List.length_take, List.length_append, bytes_len, bytes_len out, bytes_len half] at hlo
    obtain ⟨h, r, x, q, f⟩ := feed_any half (bt s i) (by omega) hb
    have hr : bytesOf r = [] ∨ bytesOf r = bytesOf half ++ [bt s i] := by
      rcases f with ⟨_, _, _, f, _⟩ | ⟨_, ⟨_, _, f, _⟩ | ⟨_, _, f, _⟩ | ⟨_, _, _, f, _⟩⟩
      · exact .inl f
      · exact .inr f
      · exact .inl f
      · exact .inl f
    have hrs : r.size ≤ half.size + 1 := by
      rw [← bytes_len r, ← bytes_len half]
      rcases hr with hr | hr <;> rw [hr] <;> simp
    refine Ev.step (f := fun k => (utf_Feed.f k half (bt s i)).bind fun bt129 => (if out.size + bt129.2.1.size ≤ 9223372036854775807 then (calamuslaw03_UtfFed.l0 k s bt129.1 (out ++ bt129.2.1) (bt129.2.2 == 0) ((i + 1 : Nat) : Int)) else (none))) (fun k => ?_) ?_
    · rw [calamuslaw03_UtfFed.l0, if_pos (by omega), if_pos rfl, if_pos (by omega), wrap_id (by omega) (by omega)]; rfl
    · refine ev_bind q (ev_pos (show out.size + r.size ≤ 9223372036854775807 from by omega) ?_)
      show Ev (fun k => calamuslaw03_UtfFed.l0 k s h (out ++ r) (x == 0) ((i + 1 : Nat) : Int)) true
      rcases f with ⟨f1, f2, _⟩ | ⟨_, ⟨f1, f2, f3, rfl⟩ | ⟨f1, f2, f3, rfl⟩ | ⟨f1, f2, f3, f4, rfl⟩⟩
      · rcases hh with hh | hh <;> contradiction
      · refine ih (i + 1) h (out ++ r) (by omega) ?_ ?_ (.inl f2)
        · rw [hget, e, f2, bytes_append, f3]; simp
        · rw [bytes_append, f3, val_append hv]
          have := (val_one (t := []) f1).2 val_nil
          rwa [List.append_nil] at this
      · refine ih (i + 1) h (out ++ r) (by omega) ?_ ?_ (.inr (by rw [f2]; exact f1))
        · rw [hget, e, f2, bytes_append, f3]; simp
        · rw [bytes_append, f3, List.append_nil]; exact hv
      · have hn : ¬ Val (bytesOf s) := by
          rw [← List.take_append_drop (i + 1) (bytesOf s), hget, e, List.append_assoc, List.append_assoc, val_append hv, ← List.append_assoc]
          exact bad_val hh f1 f2
        exact fed_bad hn _ _ _
theorem UtfFed : calamuslaw03_UtfFed.Pure := by
  intro s hs
  refine Ev.rounds (g := fun k => calamuslaw03_UtfFed.f k s) ?_
  unfold calamuslaw03_UtfFed.f
  exact fed_l s hs s.size 0 _ _ (by omega) (by simp [bytes_empty]) (by rw [bytes_empty]; exact val_nil) (.inl bytes_empty)

end Go.Proofs.Ytjobaaolohemgaa.Pure
