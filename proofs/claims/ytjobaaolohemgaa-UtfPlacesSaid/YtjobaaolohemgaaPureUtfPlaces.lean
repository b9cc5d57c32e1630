/- UtfPlaces: what the program's layer 3 says of any bytes and any place is what the document says. -/
import Derived.Test.YtjobaaolohemgaaUtfPlacesUtf
namespace Go.Proofs.Ytjobaaolohemgaa.Pure
open Go.RowKit Go.Proofs.YtjobaaolohemgaaW.PrintWords Go.Proofs.YtjobaaolohemgaaW.PrintLast Go.Proofs.YtjobaaolohemgaaW.PrintMore
open Go.Proofs.Ytjobaaolohemgaa.PUtfPlaces Go.Proofs.Ytjobaaolohemgaa.Utf Go.Proofs.Ytjobaaolohemgaa.UtfPlacesUtf

theorem lives_ : Ev (fun k => calamuslaw03_lives.f k) true := Ev.of calamuslaw03_lives.mono (k := 30) (by decide +kernel)

theorem UtfPlaces : calamuslaw03_UtfPlaces.Pure := by
  intro s at_ hs _
  refine Ev.rounds (g := fun k => calamuslaw03_UtfPlaces.f k s at_) ?_
  unfold calamuslaw03_UtfPlaces.f
  by_cases h2 : (s.size : Int) > 2000
  · exact ev_pos h2 (ev_bind lives_ (Ev.now _))
  refine ev_neg h2 ?_
  -- what is left once all agree
  have done : ∀ (a b : Bool) (c d : Int) (r : ByteArray), Ev (fun k => utf_Valid.f k s) a → Ev (fun k => calamusref03_Valid.f k s) a → Ev (fun k => utf_Place.f k s at_) b → Ev (fun k => calamusref03_Place.f k s at_) b →
      Ev (fun k => utf_Next.f k s at_) c → Ev (fun k => calamusref03_Next.f k s at_) c → Ev (fun k => utf_Prev.f k s at_) d → Ev (fun k => calamusref03_Prev.f k s at_) d →
      Ev (fun k => utf_Rune.f k s at_) r → Ev (fun k => calamusref03_Rune.f k s at_) r → Ev (fun k => (utf_Valid.f k s).bind fun t180 => ((calamusref03_Valid.f k s).bind fun t181 => (if (t180 == t181) = true then ((utf_Place.f k s at_).bind fun t182 => ((calamusref03_Place.f k s at_).bind fun t183 => (if (t182 == t183) = true then ((utf_Next.f k s at_).bind fun t184 => ((calamusref03_Next.f k s at_).bind fun t185 => (if t184 = t185 then ((utf_Prev.f k s at_).bind fun t186 => ((calamusref03_Prev.f k s at_).bind fun t187 => (if t186 = t187 then ((utf_Rune.f k s at_).bind fun t188 => ((calamusref03_Rune.f k s at_).bind fun t189 => (if t188.toList = t189.toList then ((calamuslaw03_lives.f k).bind fun t190 => (some t190)) else (some false)))) else (some false)))) else (some false)))) else (some false)))) else (some false)))) true := by
    intro a b c d r a1 a2 b1 b2 c1 c2 d1 d2 r1 r2
    refine ev_bind a1 (ev_bind a2 (ev_pos (by simp) ?_))
    refine ev_bind b1 (ev_bind b2 (ev_pos (by simp) ?_))
    refine ev_bind c1 (ev_bind c2 (ev_pos rfl ?_))
    refine ev_bind d1 (ev_bind d2 (ev_pos rfl ?_))
    exact ev_bind r1 (ev_bind r2 (ev_pos rfl (ev_bind lives_ (Ev.now _))))
  have rv : ∀ l : List Int, Ev (fun k => calamusref03_Split.f k s) l → Ev (fun k => calamusref03_Valid.f k s) (decide ((l.length : Int) > 0)) := fun l h => by
    unfold calamusref03_Valid.f
    exact ev_bind h (Ev.now _)
  by_cases hv : Val (bytesOf s)
  · obtain ⟨rs, h, e⟩ := hv
    have hl := flat_len rs h
    rw [← e, bytes_len] at hl
    have sp := split_yes (by omega) h e
    have va : Ev (fun k => calamusref03_Valid.f k s) true := by
      have := rv _ sp
      rwa [decide_eq_true (by rw [cum_length]; omega)] at this
    by_cases hp : ∃ xs ys, Is rs at_ xs ys
    · obtain ⟨xs, ys, a⟩ := hp
      have rp : Ev (fun k => calamusref03_Place.f k s at_) true := by
        have := rplace_of sp (find_yes h (by omega) a)
        rwa [decide_eq_true (by omega)] at this
      have nx : ∃ c r, Ev (fun k => utf_Next.f k s at_) c ∧ Ev (fun k => calamusref03_Next.f k s at_) c ∧ Ev (fun k => utf_Rune.f k s at_) r ∧ Ev (fun k => calamusref03_Rune.f k s at_) r := by
        rcases ys with _ | ⟨r, ys⟩
        · have a' : Is rs at_ rs [] := ⟨by simp, by rw [a.2, a.1]; simp⟩
          exact ⟨_, _, next_end h e a', rnext_end (by omega) h e a', rune_none (next_end h e a'), rrune_none (rnext_end (by omega) h e a')⟩
        · exact ⟨_, _, next_yes hs h e a, rnext_yes (by omega) h e a, rune_yes hs h e a, rrune_yes (by omega) h e a⟩
      have pv : ∃ d, Ev (fun k => utf_Prev.f k s at_) d ∧ Ev (fun k => calamusref03_Prev.f k s at_) d := by
        rcases List.eq_nil_or_concat xs with rfl | ⟨xs, r, rfl⟩
        · obtain rfl : at_ = 0 := a.2
          exact ⟨_, prev_zero (place_yes h e a), rprev_zero (by omega) h e⟩
        · rw [List.concat_eq_append] at a
          exact ⟨_, prev_yes hs h e a, rprev_yes (by omega) h e a⟩
      obtain ⟨c, r, c1, c2, r1, r2⟩ := nx
      obtain ⟨d, d1, d2⟩ := pv
      exact done _ _ _ _ _ (valid_yes ⟨rs, h, e⟩) va (place_yes h e a) rp c1 c2 d1 d2 r1 r2
    · have hp' : ∀ xs ys, ¬ Is rs at_ xs ys := fun xs ys a => hp ⟨xs, ys, a⟩
      have f := find_no (at_ := at_) (rs := rs) (by omega) hp'
      have pl := place_not h e hp'
      have rp : Ev (fun k => calamusref03_Place.f k s at_) false := by
        have := rplace_of sp f
        rwa [decide_eq_false (by omega)] at this
      exact done _ _ _ _ _ (valid_yes ⟨rs, h, e⟩) va pl rp (next_no pl) (rnext_no sp f) (prev_no pl) (rprev_no sp f) (rune_none (next_no pl)) (rrune_none (rnext_no sp f))
  · have sp := split_no (by omega) hv
    have va : Ev (fun k => calamusref03_Valid.f k s) false := by
      have := rv _ sp
      rwa [decide_eq_false (by simp)] at this
    have f := find_nil at_
    have pl := place_bad (at_ := at_) hv
    have rp : Ev (fun k => calamusref03_Place.f k s at_) false := by
      have := rplace_of sp f
      rwa [decide_eq_false (by omega)] at this
    exact done _ _ _ _ _ (valid_no hv) va pl rp (next_no pl) (rnext_no sp f) (prev_no pl) (rprev_no sp f) (rune_none (next_no pl)) (rrune_none (rnext_no sp f))

end Go.Proofs.Ytjobaaolohemgaa.Pure
