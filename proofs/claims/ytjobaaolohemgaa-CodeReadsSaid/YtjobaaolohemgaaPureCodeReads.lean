/- CodeReads: what is read of any bytes, one thing behind the other, what is left, and the first error. -/
import Derived.Test.YtjobaaolohemgaaCodeReadsCode
namespace Go.Proofs.Ytjobaaolohemgaa.Pure
open Go.RowKit Go.Proofs.YtjobaaolohemgaaW.PrintWords Go.Proofs.YtjobaaolohemgaaW.PrintLast Go.Proofs.YtjobaaolohemgaaW.PrintMore
open Go.Proofs.Ytjobaaolohemgaa.PCodeReads Go.Proofs.Ytjobaaolohemgaa.Utf Go.Proofs.Ytjobaaolohemgaa.Open Go.Proofs.Ytjobaaolohemgaa.CodeReadsCode
set_option linter.unusedVariables false

theorem lives_ : Ev (fun k => calamuslaw01_lives.f k) true := Ev.of calamuslaw01_lives.mono (k := 10) (by decide +kernel)
theorem reads_l (l : List S36) (hl : l.length ≤ 200) (d : Nat) : ∀ (i : Nat) (s : ByteArray) (e : Int), i + d = l.length → Ev (fun k => calamuslaw01_CodeReads.l0 k l i s e s e) true := by
 induction d with
 | zero =>
  intro i s e hi
  refine ev_off 1 ?_
  simp only [calamuslaw01_CodeReads.l0]
  exact ev_neg (by omega) (ev_bind lives_ (Ev.now _))
 | succ d ih =>
  intro i s e hi
  have step : ∀ (s : ByteArray) (e : Int), Ev (fun k => calamuslaw01_CodeReads.j1 k l i s e s e) true := by
   intro s e
   refine ev_off 1 ?_
   simp only [calamuslaw01_CodeReads.j1, code_Reader_Left.f, code_Reader_Err.f, Option.bind_some]
   refine evr (evr ?_)
   rw [wrap_id (by omega) (by omega)]
   exact ih (i + 1) s e (by omega)
  refine ev_off 1 ?_
  simp only [calamuslaw01_CodeReads.l0]
  refine ev_pos (by omega) (ev_pos (by omega) ?_)
  by_cases h0 : (rd_T36 l (i : Int)).f0 = 0
  ·exact ev_pos h0 (ev_bnd (rN_is _ _) (ev_bnd (rrn_is _ _) (evr (step _ _))))
  ·refine ev_neg h0 ?_
   by_cases h1 : (rd_T36 l (i : Int)).f0 = 1
   ·exact ev_pos h1 (ev_bnd (rT_is _ _ _) (ev_bnd (rrt_is _ _ _) (evr (step _ _))))
   ·exact ev_neg h1 (ev_bind (rNs_is _ _ _) (ev_bind (rrs_is _ _ _) (ev_bind (rsame_is _ (by have := rNs_len s e ((rd_T36 l (i : Int)).f1); omega)) (evr (step _ _)))))
theorem CodeReads : calamuslaw01_CodeReads.Pure := by
 intro s l hs hl
 refine Ev.rounds (g := fun k => calamuslaw01_CodeReads.f k s l) ?_
 unfold calamuslaw01_CodeReads.f
 by_cases h : (l.length : Int) > 200
 ·exact ev_pos h (ev_bind lives_ (Ev.now _))
 ·exact ev_neg h (ev_bnd rfl (reads_l l (by omega) l.length 0 s 0 (by omega)))
end Go.Proofs.Ytjobaaolohemgaa.Pure
