/- FallChoices: how many choices there are of what is loose, any one by its number, and the least numbers of any, are what the document says. -/
import Derived.Test.YtjobaaolohemgaaFallChoicesFall
namespace Go.Proofs.Ytjobaaolohemgaa.Pure
open Go.RowKit Go.Proofs.YtjobaaolohemgaaW.PrintWords Go.Proofs.YtjobaaolohemgaaW.PrintLast Go.Proofs.YtjobaaolohemgaaW.PrintMore
open Go.Proofs.Ytjobaaolohemgaa.PFallChoices Go.Proofs.Ytjobaaolohemgaa.Open Go.Proofs.Ytjobaaolohemgaa.FallChoicesFall
set_option linter.unusedVariables false

theorem law_same (a : Int) (t : List Int) (h : t.length ≤ 17592186043904) : Ev (fun k => calamuslaw32_same.f k a t a t) true := by
 unfold calamuslaw32_same.f
 refine evr (ev_bind (same_is t t h) ?_)
 rw [decide_eq_true rfl]
 exact Ev.now _
theorem FallChoices : calamuslaw32_FallChoices.Pure := by
 intro d l cd lc n hd hl hcd hlc hn
 refine Ev.rounds (g := fun k => calamuslaw32_FallChoices.f k d l cd lc n) ?_
 have early : Ev (fun k => calamuslaw32_FallChoices.j0 k n true d l cd lc) true := by
  refine ev_off 1 ?_
  simp only [calamuslaw32_FallChoices.j0]
  exact evr (ev_bind lives_ (Ev.now _))
 unfold calamuslaw32_FallChoices.f
 by_cases h1 : (l.length : Int) > 100
 ·exact ev_pos h1 early
 ·refine ev_neg h1 ?_
  by_cases h2 : (lc.length : Int) > 200
  ·rw [decide_eq_true h2]; exact early
  ·rw [decide_eq_false h2]
   refine ev_off 1 ?_
   simp only [calamuslaw32_FallChoices.j0]
   refine ev_neg (by simp) ?_
   have hr := right_is d l (by omega)
   have q1 := rround_is d l cd lc (by omega) (by omega)
   have q2 := rcount_is d l (by omega)
   have q3 := rnth_is d l n (by omega)
   by_cases h : (d :: l).all okn = true
   ·rw [if_pos h] at q1 q2 q3
    refine ev_bnd (a := (rndAt cd lc (-1) (d + 1), (List.range l.length).map (fun k : Nat => rndAt cd lc (k : Int) (rd l (k : Int) + 1)))) ?_ (ev_bind q1 (ev_bind (law_same _ _ (by simp; omega)) (evr ?_)))
    ·unfold fall_Round.f; rw [hr, h]; simp only [Option.bind_some, if_true]; rw [if_pos ⟨by omega, by omega⟩]
    refine ev_bnd (a := cntAll (d :: l)) ?_ (ev_bind q2 (evr ?_))
    ·unfold fall_Count.f; rw [hr, h]; rfl
    refine ev_bnd (a := (nx d l (rnd n (cntAll (d :: l))) 0, (List.range l.length).map (fun k : Nat => nx d l (rnd n (cntAll (d :: l))) (k + 1)))) ?_ (ev_bind q3 (ev_bind (law_same _ _ (by simp; omega)) (evr ?_)))
    ·unfold fall_Nth.f; rw [hr, h]; simp only [Option.bind_some, if_true]; rw [if_pos (by omega)]
    exact ev_bind lives_ (Ev.now _)
   ·rw [if_neg h] at q1 q2 q3
    have hf : (d :: l).all okn = false := by rwa [Bool.not_eq_true] at h
    refine ev_bnd (a := (0, [])) ?_ (ev_bind q1 (ev_bind (law_same _ _ (by simp)) (evr ?_)))
    ·unfold fall_Round.f; rw [hr, hf]; rfl
    refine ev_bnd (a := 0) ?_ (ev_bind q2 (evr ?_))
    ·unfold fall_Count.f; rw [hr, hf]; rfl
    refine ev_bnd (a := (0, [])) ?_ (ev_bind q3 (ev_bind (law_same _ _ (by simp)) (evr ?_)))
    ·unfold fall_Nth.f; rw [hr, hf]; rfl
    exact ev_bind lives_ (Ev.now _)
end Go.Proofs.Ytjobaaolohemgaa.Pure
