/- ChangeDoes: whether any change fits any text, and what any make of it, is what the document says, or there is its error. -/
import Derived.Test.YtkiokimpblimcaaChangeDoesChange
namespace Go.Proofs.Ytkiokimpblimcaa.Pure
open Go.RowKit Go.Proofs.YtkiokimpblimcaaW.PrintWords Go.Proofs.YtkiokimpblimcaaW.PrintLast Go.Proofs.YtkiokimpblimcaaW.PrintMore
open Go.Proofs.Ytkiokimpblimcaa.PChangeDoes Go.Proofs.Ytkiokimpblimcaa.ChangeDoesUtf Go.Proofs.Ytkiokimpblimcaa.ChangeDoesChange Go.Proofs.Ytkiokimpblimcaa.Open

theorem does_l (t : ByteArray) (l : List S24) (s : ByteArray) (e : Int) (ht : t.size ≤ 9000) (hl : l.length ≤ 30) (hc : ∀ c ∈ l, c.f1.size ≤ 9000 ∧ c.f2.size ≤ 9000 ∧ bInt .i64 c.f0) (d : Nat) : ∀ i : Nat, i + d = l.length →
    Ev (fun k => calamuslaw08_ChangeDoes.l0 k t l s e s e i) true := by
  induction d with
  | zero =>
    intro i hi
    refine ev_off 1 ?_
    simp only [calamuslaw08_ChangeDoes.l0]
    exact ev_neg (by omega) (ev_pos (by simp) (ev_pos (by simp) (ev_bind lives_ (Ev.now _))))
  | succ d ih =>
    intro i hi
    have hlt : i < l.length := by omega
    obtain ⟨c1, c2, c3⟩ := hc l[i] (List.getElem_mem hlt)
    obtain ⟨b, f1, f2, f3⟩ := fits_both t l[i] ht c1 c2 c3
    have e1 : wrap64 ((i : Int) + 1) = ((i + 1 : Nat) : Int) := by rw [wrap_id (by omega) (by omega)]; rfl
    refine ev_off 1 ?_
    simp only [calamuslaw08_ChangeDoes.l0, rd_at hlt, e1]
    refine ev_pos (by omega) (ev_pos (by omega) (ev_bind f1 (ev_bind f2 (ev_neg (by simp) ?_))))
    unfold change_Turn.f
    simp only [Option.bind_some]
    exact ev_neg (by simp) (ih (i + 1) (by omega))
theorem ChangeDoes : calamuslaw08_ChangeDoes.Pure := by
  intro t l ht hl
  refine Ev.rounds (g := fun k => calamuslaw08_ChangeDoes.f k t l) ?_
  unfold calamuslaw08_ChangeDoes.f
  refine ev_bind (short_any t l ht hl) ?_
  by_cases h : l.length ≤ 30 ∧ t.size + total l ≤ 9000
  · rw [decide_eq_true h]
    refine ev_pos rfl ?_
    have hc : ∀ c ∈ l, c.f1.size ≤ 9000 ∧ c.f2.size ≤ 9000 ∧ bInt .i64 c.f0 := fun c hc => by have := total_mem hc; exact ⟨by omega, by omega, (hl.2 c hc).1⟩
    obtain ⟨⟨s, e⟩, q1, q2⟩ := do_l l h.1 hc l.length 0 t (by omega) (by omega)
    exact ev_bind q1 (ev_bind q2 (does_l t l s e (by omega) h.1 hc l.length 0 (by omega)))
  · rw [decide_eq_false h]
    exact ev_neg (by simp) (ev_bind lives_ (Ev.now _))
end Go.Proofs.Ytkiokimpblimcaa.Pure
