/- CodeWrites: the bytes of any number, text and list are what the document says, where text and list have at most 1048576 bytes and numbers. -/
import Derived.Test.YtjobaaolohemgaaCodeWritesCode
namespace Go.Proofs.Ytjobaaolohemgaa.Pure
open Go.RowKit Go.Proofs.YtjobaaolohemgaaW.PrintWords Go.Proofs.YtjobaaolohemgaaW.PrintLast Go.Proofs.YtjobaaolohemgaaW.PrintMore
open Go.Proofs.Ytjobaaolohemgaa.PCodeWrites Go.Proofs.Ytjobaaolohemgaa.Utf Go.Proofs.Ytjobaaolohemgaa.Open Go.Proofs.Ytjobaaolohemgaa.CodeWritesCode

theorem lives_ : Ev (fun k => calamuslaw01_lives.f k) true := Ev.of calamuslaw01_lives.mono (k := 10) (by decide +kernel)

theorem CodeWrites : calamuslaw01_CodeWrites.PureUpto := by
 intro n s l hn hs hl h1 h2
 refine Ev.rounds (g := fun k => calamuslaw01_CodeWrites.f k n s l) ?_
 unfold calamuslaw01_CodeWrites.f
 refine ev_bind (num_any _) (ev_bnd (rnum_is _) (ev_pos rfl ?_))
 refine ev_bind (text_any s hs) (ev_bnd (rtext_is s hs) (ev_pos (by rw [if_pos (by omega)]) ?_))
 refine ev_bind (nums_any l (by omega)) (ev_bind (rnums_any l (by omega)) (ev_pos rfl ?_))
 exact ev_bind lives_ (Ev.now _)

end Go.Proofs.Ytjobaaolohemgaa.Pure
