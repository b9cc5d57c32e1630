/- UtfFeeds: what becomes of any bytes of a rune, and one more, is what the document says. -/
import Derived.Test.YtjobaaolohemgaaUtfFeedsUtf
namespace Go.Proofs.Ytjobaaolohemgaa.Pure
open Go.RowKit Go.Proofs.YtjobaaolohemgaaW.PrintWords Go.Proofs.YtjobaaolohemgaaW.PrintLast Go.Proofs.YtjobaaolohemgaaW.PrintMore
open Go.Proofs.Ytjobaaolohemgaa.PUtfFeeds Go.Proofs.Ytjobaaolohemgaa.Utf Go.Proofs.Ytjobaaolohemgaa.UtfFeedsUtf

theorem lives_ : Ev (fun k => calamuslaw03_lives.f k) true := Ev.of calamuslaw03_lives.mono (k := 30) (by decide +kernel)

theorem UtfFeeds : calamuslaw03_UtfFeeds.Pure := by
  intro s b hs hb
  refine Ev.rounds (g := fun k => calamuslaw03_UtfFeeds.f k s b) ?_
  unfold calamuslaw03_UtfFeeds.f
  obtain ⟨h, r, e, q, f⟩ := feed_any s b hs (u8_range hb)
  obtain ⟨h', r', e', q', f'⟩ := rfeed_any s b hs (u8_range hb)
  obtain ⟨e1, e2, rfl⟩ := fed_inj f f'
  obtain rfl := bytes_inj e1
  obtain rfl := bytes_inj e2
  exact ev_bind q (ev_bind q' (ev_pos rfl (ev_pos rfl (ev_pos rfl (ev_bind lives_ (Ev.now _))))))

end Go.Proofs.Ytjobaaolohemgaa.Pure
