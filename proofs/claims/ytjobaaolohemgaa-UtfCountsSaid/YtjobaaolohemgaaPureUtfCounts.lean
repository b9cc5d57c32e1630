/- UtfCounts: how many runes any bytes are, where each begins, and any beginning, is what the document says. -/
import Derived.Test.YtjobaaolohemgaaUtfCountsUtf
namespace Go.Proofs.Ytjobaaolohemgaa.Pure
open Go.RowKit Go.Proofs.YtjobaaolohemgaaW.PrintWords Go.Proofs.YtjobaaolohemgaaW.PrintLast Go.Proofs.YtjobaaolohemgaaW.PrintMore
open Go.Proofs.Ytjobaaolohemgaa.PUtfCounts Go.Proofs.Ytjobaaolohemgaa.Utf Go.Proofs.Ytjobaaolohemgaa.UtfCountsUtf

theorem lives_ : Ev (fun k => calamuslaw03_lives.f k) true := Ev.of calamuslaw03_lives.mono (k := 30) (by decide +kernel)

theorem UtfCounts : calamuslaw03_UtfCounts.Pure := by
  intro s n hs hn
  have hn' := i64_range hn
  refine Ev.rounds (g := fun k => calamuslaw03_UtfCounts.f k s n) ?_
  unfold calamuslaw03_UtfCounts.f
  by_cases h2 : (s.size : Int) > 2000
  · exact ev_pos h2 (ev_bind lives_ (Ev.now _))
  refine ev_neg h2 ?_
  have done : ∀ (a b : Int) (c : ByteArray), Ev (fun k => utf_Count.f k s) a → Ev (fun k => calamusref03_Count.f k s) a → Ev (fun k => utf_Offset.f k s n) b → Ev (fun k => calamusref03_Offset.f k s n) b →
      Ev (fun k => utf_Cut.f k s n) c → Ev (fun k => calamusref03_Cut.f k s n) c →
      Ev (fun k => (utf_Count.f k s).bind fun t176 => ((calamusref03_Count.f k s).bind fun t177 => (if t176 = t177 then ((utf_Offset.f k s n).bind fun t178 => ((calamusref03_Offset.f k s n).bind fun t179 => (if t178 = t179 then ((utf_Cut.f k s n).bind fun t180 => ((calamusref03_Cut.f k s n).bind fun t181 => (if t180.toList = t181.toList then ((calamuslaw03_lives.f k).bind fun t182 => (some t182)) else (some false)))) else (some false)))) else (some false)))) true := by
    intro a b c a1 a2 b1 b2 c1 c2
    refine ev_bind a1 (ev_bind a2 (ev_pos rfl ?_))
    refine ev_bind b1 (ev_bind b2 (ev_pos rfl ?_))
    exact ev_bind c1 (ev_bind c2 (ev_pos rfl (ev_bind lives_ (Ev.now _))))
  by_cases hv : Val (bytesOf s)
  · have hv0 := hv
    obtain ⟨rs, h, e⟩ := hv
    have hsz : s.size = rs.flatten.length := by rw [← e, bytes_len]
    have sp := split_yes (by omega) h e
    by_cases h0 : n < 0
    · exact done _ _ _ (count_yes hs h e) (rcount_yes (by omega) h e) (off_neg h0) (roff_neg sp (.inl h0)) (cut_neg h0) (rcut_neg (by omega) h e h0)
    · obtain ⟨m, rfl⟩ : ∃ m : Nat, n = m := ⟨n.toNat, by omega⟩
      have q : ∃ c, Ev (fun k => utf_Cut.f k s m) c ∧ Ev (fun k => calamusref03_Cut.f k s m) c := by
        by_cases hm : s.size ≤ m
        · refine ⟨_, cut_end hv0 (by omega), ?_⟩
          have := rcut_yes (s := s) (by omega) h e (List.append_nil rs).symm (n := m) (by omega) (fun r ys' hh => by simp at hh)
          rwa [← hsz] at this
        · obtain ⟨xs, r, ys, j, a, b, c⟩ := locate rs m (by omega)
          refine ⟨_, cut_yes hs h e a (n := m) (by omega) c, rcut_yes (by omega) h e a (by omega) (fun r' ys' hh => ?_)⟩
          obtain ⟨rfl, rfl⟩ := List.cons.inj hh
          omega
      obtain ⟨c, c1, c2⟩ := q
      exact done _ _ _ (count_yes hs h e) (rcount_yes (by omega) h e) (off_yes hs h e (by omega)) (roff_yes (by omega) h e) c1 c2
  · exact done _ _ _ (count_no hv) (rcount_no (by omega) hv) (off_no hv) (roff_neg (split_no (by omega) hv) (by simp; omega)) (cut_no hv) (rcut_no (by omega) hv)

end Go.Proofs.Ytjobaaolohemgaa.Pure
