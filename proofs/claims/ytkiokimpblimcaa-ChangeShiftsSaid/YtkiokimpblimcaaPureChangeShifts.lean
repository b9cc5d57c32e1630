/- ChangeShifts: where any place goes by any changes is what the document says. -/
import Derived.Test.YtkiokimpblimcaaChangeShiftsChange
namespace Go.Proofs.Ytkiokimpblimcaa.Pure
open Go.RowKit Go.Proofs.YtkiokimpblimcaaW.PrintWords Go.Proofs.YtkiokimpblimcaaW.PrintLast Go.Proofs.YtkiokimpblimcaaW.PrintMore
open Go.Proofs.Ytkiokimpblimcaa.PChangeShifts Go.Proofs.Ytkiokimpblimcaa.ChangeShiftsUtf Go.Proofs.Ytkiokimpblimcaa.ChangeShiftsChange Go.Proofs.Ytkiokimpblimcaa.Open

theorem near_any (a : Int) : calamuslaw08_near.f a = some (decide (-1099511627776 ≤ a ∧ a ≤ 1099511627776)) := by
  unfold calamuslaw08_near.f
  split
  · congr 1; rw [decide_eq_decide]; omega
  · rw [decide_eq_false (by omega)]
theorem shifts_l (p : Int) (l : List S24) (hp : -1099511627776 ≤ p ∧ p ≤ 1099511627776) (hl : l.length ≤ 30) (hs : ∀ c ∈ l, c.f1.size ≤ 9000 ∧ c.f2.size ≤ 9000) (d : Nat) : ∀ i : Nat, i + d = l.length → (∀ j (hj : j < l.length), j < i → -1099511627776 ≤ (l[j]).f0 ∧ (l[j]).f0 ≤ 1099511627776) →
    Ev (fun k => calamuslaw08_ChangeShifts.l0 k p l i) true := by
  induction d with
  | zero =>
    intro i hi hn
    have hc : ∀ c ∈ l, (-1099511627776 ≤ c.f0 ∧ c.f0 ≤ 1099511627776) ∧ c.f1.size ≤ 9000 ∧ c.f2.size ≤ 9000 := by
      intro c hc
      obtain ⟨j, hj, rfl⟩ := List.mem_iff_getElem.1 hc
      exact ⟨hn j hj (by omega), hs _ hc⟩
    obtain ⟨q1, q2⟩ := shift_l l hl hc l.length 0 p (by omega) (by omega)
    refine Ev.step (f := fun k => (change_Shift.f k p l).bind fun t138 => ((calamusref08_Shift.f k p l).bind fun t139 => (if t138 = t139 then ((calamuslaw08_lives.f k).bind fun t140 => (some t140)) else (some false)))) (fun k => ?_) ?_
    · rw [calamuslaw08_ChangeShifts.l0, if_neg (by omega)]
    · exact ev_bind q1 (ev_bind q2 (ev_pos rfl (ev_bind lives_ (Ev.now _))))
  | succ d ih =>
    intro i hi hn
    have hlt : i < l.length := by omega
    by_cases g : -1099511627776 ≤ (l[i]).f0 ∧ (l[i]).f0 ≤ 1099511627776
    · refine Ev.step (fun k => ?_) (ih (i + 1) (by omega) (fun j hj hji => ?_))
      · rw [calamuslaw08_ChangeShifts.l0, if_pos (by omega), if_pos (by omega), rd_at hlt, near_any, decide_eq_true g]
        simp only [Option.bind_some, if_true]
        rw [wrap_id (by omega) (by omega)]; rfl
      · rcases Nat.lt_or_ge j i with h | h
        · exact hn j hj h
        · obtain rfl : j = i := by omega
          exact g
    · refine Ev.step (f := fun k => (calamuslaw08_lives.f k).bind fun t143 => (some t143)) (fun k => ?_) (ev_bind lives_ (Ev.now _))
      rw [calamuslaw08_ChangeShifts.l0, if_pos (by omega), if_pos (by omega), rd_at hlt, near_any, decide_eq_false g]
      simp
theorem ChangeShifts : calamuslaw08_ChangeShifts.Pure := by
  intro p l hp hl
  refine Ev.rounds (g := fun k => calamuslaw08_ChangeShifts.f k p l) ?_
  have jt : Ev (fun k => calamuslaw08_ChangeShifts.j0 k p l true) true := by
    refine Ev.step (f := fun k => (calamuslaw08_lives.f k).bind fun t137 => (some t137)) (fun k => ?_) (ev_bind lives_ (Ev.now _))
    rw [calamuslaw08_ChangeShifts.j0, if_pos rfl]
  unfold calamuslaw08_ChangeShifts.f
  refine ev_bind (short_any _ l (by simp [bStr, ByteArray.size]) hl) ?_
  by_cases h : l.length ≤ 30 ∧ (⟨#[]⟩ : ByteArray).size + total l ≤ 9000
  · rw [decide_eq_true h]
    refine ev_pos rfl ?_
    rw [near_any]
    simp only [Option.bind_some]
    by_cases g : -1099511627776 ≤ p ∧ p ≤ 1099511627776
    · rw [decide_eq_true g]
      have hs : ∀ c ∈ l, c.f1.size ≤ 9000 ∧ c.f2.size ≤ 9000 := fun c hc => by have := total_mem hc; omega
      refine Ev.step (fun k => ?_) (shifts_l p l g h.1 hs l.length 0 (by omega) (fun j _ hj => by omega))
      rw [calamuslaw08_ChangeShifts.j0, if_neg (by simp)]; rfl
    · rw [decide_eq_false g]; exact jt
  · rw [decide_eq_false h]
    exact ev_neg (by simp) jt
end Go.Proofs.Ytkiokimpblimcaa.Pure
