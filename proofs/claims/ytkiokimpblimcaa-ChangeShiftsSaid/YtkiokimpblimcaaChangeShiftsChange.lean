/- What the printed functions of layer 8, the program's and the document's, tell.
   Template: Ytkiokimpblimcaa the seat's name, ChangeShifts the law's key; in pieces. -/
import Derived.Test.YtkiokimpblimcaaChangeShiftsUtf
namespace Go.Proofs.Ytkiokimpblimcaa.ChangeShiftsChange
open Go.RowKit Go.Proofs.YtkiokimpblimcaaW.PrintWords Go.Proofs.YtkiokimpblimcaaW.PrintLast Go.Proofs.YtkiokimpblimcaaW.PrintMore
open Go.Proofs.Ytkiokimpblimcaa.PChangeShifts Go.Proofs.Ytkiokimpblimcaa.Utf Go.Proofs.Ytkiokimpblimcaa.ChangeShiftsUtf Go.Proofs.Ytkiokimpblimcaa.Open
set_option linter.unusedVariables false
set_option linter.unusedSimpArgs false

theorem lives_ : Ev (fun k => calamuslaw08_lives.f k) true := Ev.of calamuslaw08_lives.mono (k := 40) (by decide +kernel)
/-- How many bytes changes have. -/
def total (l : List S24) : Nat := (l.map (fun c => c.f1.size + c.f2.size)).sum
theorem total_nil : total [] = 0 := rfl
theorem total_cons (c : S24) (l : List S24) : total (c :: l) = c.f1.size + c.f2.size + total l := by simp [total]
theorem total_append (a b : List S24) : total (a ++ b) = total a + total b := by simp [total]
theorem total_mem {l : List S24} {c : S24} (h : c ∈ l) : c.f1.size + c.f2.size ≤ total l := by
  obtain ⟨a, b, rfl⟩ := List.append_of_mem h
  rw [total_append, total_cons]; omega
theorem rd_at {l : List S24} {i : Nat} (h : i < l.length) : rd_T24 l (i : Int) = l[i] := by
  unfold rd_T24
  rw [Int.toNat_natCast, List.getD_eq_getElem?_getD, List.getElem?_eq_getElem h]; rfl
theorem short_l (l : List S24) (hl : ∀ c ∈ l, c.f1.size ≤ 140737488351232 ∧ c.f2.size ≤ 140737488351232) (hll : l.length ≤ 1000000000000000) (d : Nat) : ∀ (i n : Nat), i + d = min l.length 31 → n ≤ 140737488351232 * (1 + 2 * i) →
    Ev (fun k => calamuslaw08_short.l0 k l n i) (decide (l.length ≤ 30 ∧ n + total ((l.drop i).take d) ≤ 9000)) := by
  induction d with
  | zero =>
    intro i n hi hn
    refine ev_from 1 fun k => ?_
    show calamuslaw08_short.l0 (k + 1) l n i = _
    rw [calamuslaw08_short.l0]
    have tail : (if (l.length : Int) ≤ 30 then some (decide ((n : Int) ≤ 9000)) else some false) = some (decide (l.length ≤ 30 ∧ n + total ((l.drop i).take 0) ≤ 9000)) := by
      rw [List.take_zero, total_nil]
      by_cases g : l.length ≤ 30
      · rw [if_pos (by omega)]; congr 1; rw [decide_eq_decide]; omega
      · rw [if_neg (by omega), decide_eq_false (fun h => g h.1)]
    by_cases g : (i : Int) < (l.length : Int)
    · rw [if_pos g, if_neg (by omega), tail]
    · rw [if_neg g, tail]
  | succ d ih =>
    intro i n hi hn
    have hlt : i < l.length := by omega
    have hc := hl l[i] (List.getElem_mem hlt)
    have q := ih (i + 1) (n + (l[i].f1.size + l[i].f2.size)) (by omega) (by omega)
    rw [show n + total ((l.drop i).take (d + 1)) = n + (l[i].f1.size + l[i].f2.size) + total ((l.drop (i + 1)).take d) from by rw [List.drop_eq_getElem_cons hlt, List.take_succ_cons, total_cons]; omega]
    refine Ev.step (fun k => ?_) q
    rw [calamuslaw08_short.l0, if_pos (by omega), if_pos (by omega), if_pos (by omega), rd_at hlt, wrap_id (x := (l[i].f1.size : Int) + l[i].f2.size) (by omega) (by omega), wrap_id (x := (n : Int) + _) (by omega) (by omega), wrap_id (x := (i : Int) + 1) (by omega) (by omega)]
    congr 1
theorem short_any (t : ByteArray) (l : List S24) (ht : bStr t) (hl : bSl 40 b24 l) : Ev (fun k => calamuslaw08_short.f k t l) (decide (l.length ≤ 30 ∧ t.size + total l ≤ 9000)) := by
  unfold bStr at ht
  have h1 := hl.1
  have hb : ∀ c ∈ l, c.f1.size ≤ 140737488351232 ∧ c.f2.size ≤ 140737488351232 := fun c hc => (hl.2 c hc).2
  have q := short_l l hb (by omega) (min l.length 31) 0 t.size (by omega) (by omega)
  unfold calamuslaw08_short.f
  have e : (decide (l.length ≤ 30 ∧ t.size + total ((l.drop 0).take (min l.length 31)) ≤ 9000)) = decide (l.length ≤ 30 ∧ t.size + total l ≤ 9000) := by
    rw [decide_eq_decide, List.drop_zero]
    constructor <;> rintro ⟨a, b⟩ <;> refine ⟨a, ?_⟩
    · rwa [List.take_of_length_le (by omega)] at b
    · rwa [List.take_of_length_le (by omega)]
  rw [← e]
  exact q
def sh (p : Int) (c : S24) : Int := if p < c.f0 then p else if p < c.f0 + c.f1.size then c.f0 else p + c.f2.size - c.f1.size
theorem shift_one (p : Int) (c : S24) (hp : -2000000000000 ≤ p ∧ p ≤ 2000000000000) (hc : -2000000000000 ≤ c.f0 ∧ c.f0 ≤ 2000000000000) (h1 : c.f1.size ≤ 9000) (h2 : c.f2.size ≤ 9000) : change_shift.f p c.f0 c.f1 c.f2 = some (sh p c) := by
  unfold change_shift.f sh
  rw [wrap_id (x := c.f0 + c.f1.size) (by omega) (by omega)]
  split
  · rfl
  split
  · rfl
  · rw [wrap_id (x := p + c.f2.size) (by omega) (by omega), wrap_id (by omega) (by omega)]
theorem sh_near (p : Int) (c : S24) (m : Int) (hm : 1099511627776 ≤ m) (hp : -m ≤ p ∧ p ≤ m) (hc : -1099511627776 ≤ c.f0 ∧ c.f0 ≤ 1099511627776) (h1 : c.f1.size ≤ 9000) (h2 : c.f2.size ≤ 9000) : -(m + 9000) ≤ sh p c ∧ sh p c ≤ m + 9000 := by
  unfold sh
  split
  · omega
  split <;> omega
theorem shift_l (l : List S24) (hl : l.length ≤ 30) (hc : ∀ c ∈ l, (-1099511627776 ≤ c.f0 ∧ c.f0 ≤ 1099511627776) ∧ c.f1.size ≤ 9000 ∧ c.f2.size ≤ 9000) (d : Nat) : ∀ (i : Nat) (p : Int), i + d = l.length → (-(1099511627776 + 9000 * i) ≤ p ∧ p ≤ 1099511627776 + 9000 * (i : Int)) →
    Ev (fun k => change_Shift.l0 k p l l.length i) ((l.drop i).foldl sh p) ∧ Ev (fun k => calamusref08_Shift.l0 k p l i) ((l.drop i).foldl sh p) := by
  induction d with
  | zero =>
    intro i p hi hp
    rw [List.drop_of_length_le (by omega)]
    constructor
    · refine ev_from 1 fun k => ?_
      show change_Shift.l0 (k + 1) p l l.length i = _
      rw [change_Shift.l0, if_neg (by omega)]; rfl
    · refine ev_from 1 fun k => ?_
      show calamusref08_Shift.l0 (k + 1) p l i = _
      rw [calamusref08_Shift.l0, if_neg (by omega)]; rfl
  | succ d ih =>
    intro i p hi hp
    have hlt : i < l.length := by omega
    obtain ⟨c0, c1, c2⟩ := hc l[i] (List.getElem_mem hlt)
    have hn := sh_near p l[i] (1099511627776 + 9000 * i) (by omega) (by omega) c0 c1 c2
    obtain ⟨q1, q2⟩ := ih (i + 1) (sh p l[i]) (by omega) (by omega)
    rw [List.drop_eq_getElem_cons hlt, List.foldl_cons]
    constructor
    · refine Ev.step (fun k => ?_) q1
      rw [change_Shift.l0, if_pos (by omega), if_pos (by omega), if_pos (by omega), rd_at hlt, shift_one p l[i] (by omega) (by omega) c1 c2]
      simp only [Option.bind_some]
      rw [wrap_id (by omega) (by omega)]; rfl
    · refine ev_off 2 ?_
      have e : ∀ k, calamusref08_Shift.l0 (k + 2) p l i = calamusref08_Shift.l0 k (sh p l[i]) l ((i + 1 : Nat) : Int) := by
        intro k
        rw [calamusref08_Shift.l0, if_pos (by omega), if_pos (by omega), rd_at hlt, wrap_id (x := l[i].f0 + l[i].f1.size) (by omega) (by omega)]
        unfold sh
        by_cases g1 : p ≥ l[i].f0
        · rw [if_pos g1, if_neg (by omega), calamusref08_Shift.j1]
          by_cases g2 : p < l[i].f0 + l[i].f1.size
          · rw [if_pos (by simpa using g2), if_pos (by omega), if_pos (by omega), if_pos g2, rd_at hlt, wrap_id (by omega) (by omega)]; rfl
          · rw [if_neg (by simpa using g2), if_pos (by omega), if_pos (by omega), if_pos (by omega), if_neg g2, rd_at hlt, wrap_id (x := p - l[i].f1.size) (by omega) (by omega), wrap_id (x := p - l[i].f1.size + l[i].f2.size) (by omega) (by omega), wrap_id (by omega) (by omega)]
            congr 1; omega
        · rw [if_neg g1, if_pos (by omega), calamusref08_Shift.j1, if_neg (by simp), if_neg (by omega), wrap_id (by omega) (by omega)]; rfl
      simp only [e]
      exact q2
end Go.Proofs.Ytkiokimpblimcaa.ChangeShiftsChange
