/- The law BatchPlaces, over the functions alone: what stands at a place that no change takes stands, behind them, where the place goes; order is kept. Conditions: none but the row's own. -/
import Derived.Test.YtkiokimpblimcaaBatchPlacesUtf
namespace Go.Proofs.Ytkiokimpblimcaa.Pure
open Go.RowKit Go.Proofs.YtkiokimpblimcaaW.PrintWords Go.Proofs.YtkiokimpblimcaaW.PrintLast Go.Proofs.YtkiokimpblimcaaW.PrintMore
open Go.Proofs.Ytkiokimpblimcaa.PBatchPlaces Go.Proofs.Ytkiokimpblimcaa.Utf Go.Proofs.Ytkiokimpblimcaa.Open Go.Proofs.Ytkiokimpblimcaa.BatchPlacesUtf
set_option linter.unusedVariables false
theorem lives_ : Ev (fun k => calamuslaw09_lives.f k) true := Ev.of calamuslaw09_lives.mono (k := 40) (by decide +kernel)
theorem lv : Ev (fun k => (calamuslaw09_lives.f k).bind fun t => some t) true := ev_bind lives_ (Ev.now _)
def total (l : List S24) : Nat := (l.map (fun c => c.f1.size + c.f2.size)).sum
theorem total_nil : total [] = 0 := rfl
theorem total_cons (c : S24) (l : List S24) : total (c :: l) = c.f1.size + c.f2.size + total l := by simp [total]
theorem total_append (a b : List S24) : total (a ++ b) = total a + total b := by simp [total]
theorem total_mem {l : List S24} {c : S24} (h : c ∈ l) : c.f1.size + c.f2.size ≤ total l := by
 obtain ⟨a, b, rfl⟩ := List.append_of_mem h
 rw [total_append, total_cons]; omega
theorem rd_at {l : List S24} {i : Nat} (h : i < l.length) : rd_T24 l (i : Int) = l[i] := by
 unfold rd_T24
 rw [Int.toNat_natCast, List.getD_eq_getElem?_getD, List.getElem?_eq_getElem h]; rfl
def Near (c : S24) : Prop := -1099511627776 ≤ c.f0 ∧ c.f0 ≤ 1099511627776
theorem short_l (l : List S24) (hl : ∀ c ∈ l, c.f1.size ≤ 140737488351232 ∧ c.f2.size ≤ 140737488351232) (hll : l.length ≤ 1000000000000000) (d : Nat) : ∀ (i n : Nat), i + d = min l.length 31 → n ≤ 140737488351232 * (1 + 2 * i) →
  ∃ b, Ev (fun k => calamuslaw09_short.l0 k l n i) b ∧ (b = true → l.length ≤ 30 ∧ n + total ((l.drop i).take d) ≤ 9000 ∧ ∀ c ∈ (l.drop i).take d, Near c) := by
 induction d with
 | zero =>
  intro i n hi hn
  have fin : ∃ b, Ev (fun k => calamuslaw09_short.j1 k l n i false) b ∧ (b = true → l.length ≤ 30 ∧ n + total ((l.drop i).take 0) ≤ 9000 ∧ ∀ c ∈ (l.drop i).take 0, Near c) := by
   by_cases g : (l.length : Int) ≤ 30
   ·refine ⟨decide ((n : Int) ≤ 9000), ev_off 1 ?_, fun h => ⟨by omega, by have := of_decide_eq_true h; rw [List.take_zero, total_nil]; omega, fun c hc => by simp at hc⟩⟩
    simp only [calamuslaw09_short.j1]
    exact ev_neg (by simp) (ev_pos g (Ev.now _))
   ·refine ⟨false, ev_off 1 ?_, fun h => by cases h⟩
    simp only [calamuslaw09_short.j1]
    exact ev_neg (by simp) (ev_neg g (Ev.now _))
  obtain ⟨b, h1, h2⟩ := fin
  refine ⟨b, ev_off 1 ?_, h2⟩
  simp only [calamuslaw09_short.l0]
  by_cases g : (i : Int) < (l.length : Int)
  ·refine ev_pos g ?_
   rw [decide_eq_false (show ¬ (i : Int) < 31 by omega)]
   exact h1
  ·exact ev_neg g h1
 | succ d ih =>
  intro i n hi hn
  have hlt : i < l.length := by omega
  have hc := hl l[i] (List.getElem_mem hlt)
  obtain ⟨b, h1, h2⟩ := ih (i + 1) (n + (l[i].f1.size + l[i].f2.size)) (by omega) (by omega)
  have e : (l.drop i).take (d + 1) = l[i] :: (l.drop (i + 1)).take d := by rw [List.drop_eq_getElem_cons hlt, List.take_succ_cons]
  rw [e, total_cons]
  have st : ∀ {b : Bool}, Ev (fun k => if l[i].f0 < -1099511627776 then some false else if l[i].f0 > 1099511627776 then some false else calamuslaw09_short.l0 k l ((n + (l[i].f1.size + l[i].f2.size) : Nat) : Int) ((i + 1 : Nat) : Int)) b → Ev (fun k => calamuslaw09_short.l0 k l n i) b := by
   intro b hb
   refine ev_off 1 ?_
   simp only [calamuslaw09_short.l0]
   refine ev_pos (by omega) ?_
   rw [decide_eq_true (show (i : Int) < 31 by omega)]
   refine ev_off 1 ?_
   simp only [calamuslaw09_short.j1]
   rw [rd_at hlt, wrap_id (x := (l[i].f1.size : Int) + l[i].f2.size) (by omega) (by omega), wrap_id (x := (n : Int) + _) (by omega) (by omega), wrap_id (x := (i : Int) + 1) (by omega) (by omega)]
   exact ev_pos trivial (ev_pos (by omega) (ev_pos (by omega) hb))
  by_cases g1 : l[i].f0 < -1099511627776
  ·exact ⟨false, st (ev_pos g1 (Ev.now _)), fun h => by cases h⟩
  by_cases g2 : l[i].f0 > 1099511627776
  ·exact ⟨false, st (ev_neg g1 (ev_pos g2 (Ev.now _))), fun h => by cases h⟩
  refine ⟨b, st (ev_neg g1 (ev_neg g2 h1)), fun h => ?_⟩
  obtain ⟨a1, a2, a3⟩ := h2 h
  refine ⟨a1, by omega, fun c hc => ?_⟩
  rcases List.mem_cons.1 hc with rfl | hc
  ·exact ⟨by omega, by omega⟩
  ·exact a3 c hc
theorem short_any (t : ByteArray) (l : List S24) (ht : bStr t) (hl : bSl 40 b24 l) : ∃ b, Ev (fun k => calamuslaw09_short.f k t l) b ∧ (b = true → l.length ≤ 30 ∧ t.size + total l ≤ 9000 ∧ ∀ c ∈ l, Near c) := by
 unfold bStr at ht
 have h1 := hl.1
 obtain ⟨b, q1, q2⟩ := short_l l (fun c hc => (hl.2 c hc).2) (by omega) (min l.length 31) 0 t.size (by omega) (by omega)
 refine ⟨b, q1, fun h => ?_⟩
 obtain ⟨a1, a2, a3⟩ := q2 h
 rw [List.drop_zero, List.take_of_length_le (by omega)] at a2 a3
 exact ⟨a1, a2, a3⟩
/-! ### Shift -/
def sh (p : Int) (c : S24) : Int := if p < c.f0 then p else if p < c.f0 + c.f1.size then c.f0 else p + c.f2.size - c.f1.size
theorem shift_one (p : Int) (c : S24) (hp : -2000000000000 ≤ p ∧ p ≤ 2000000000000) (hc : -2000000000000 ≤ c.f0 ∧ c.f0 ≤ 2000000000000) (h1 : c.f1.size ≤ 9000) (h2 : c.f2.size ≤ 9000) : change_shift.f p c.f0 c.f1 c.f2 = some (sh p c) := by
 unfold change_shift.f sh
 rw [wrap_id (x := c.f0 + c.f1.size) (by omega) (by omega)]
 split
 ·rfl
 split
 ·rfl
 ·rw [wrap_id (x := p + c.f2.size) (by omega) (by omega), wrap_id (by omega) (by omega)]
theorem sh_near (p : Int) (c : S24) (m : Int) (hm : 1099511627776 ≤ m) (hp : -m ≤ p ∧ p ≤ m) (hc : -1099511627776 ≤ c.f0 ∧ c.f0 ≤ 1099511627776) (h1 : c.f1.size ≤ 9000) (h2 : c.f2.size ≤ 9000) : -(m + 9000) ≤ sh p c ∧ sh p c ≤ m + 9000 := by
 unfold sh
 split
 ·omega
 split <;> omega
theorem shift_l (l : List S24) (hl : l.length ≤ 30) (hc : ∀ c ∈ l, Near c ∧ c.f1.size ≤ 9000 ∧ c.f2.size ≤ 9000) (d : Nat) : ∀ (i : Nat) (p : Int), i + d = l.length → (-(1099511627776 + 9000 * i) ≤ p ∧ p ≤ 1099511627776 + 9000 * (i : Int)) →
  Ev (fun k => change_Shift.l0 k p l l.length i) ((l.drop i).foldl sh p) := by
 induction d with
 | zero =>
  intro i p hi hp
  rw [List.drop_of_length_le (by omega)]
  refine ev_off 1 ?_
  simp only [change_Shift.l0]
  exact ev_neg (by omega) (Ev.now _)
 | succ d ih =>
  intro i p hi hp
  have hlt : i < l.length := by omega
  obtain ⟨c0, c1, c2⟩ := hc l[i] (List.getElem_mem hlt)
  unfold Near at c0
  have hn := sh_near p l[i] (1099511627776 + 9000 * i) (by omega) (by omega) c0 c1 c2
  have q1 := ih (i + 1) (sh p l[i]) (by omega) (by omega)
  rw [List.drop_eq_getElem_cons hlt, List.foldl_cons]
  refine ev_off 1 ?_
  simp only [change_Shift.l0]
  rw [rd_at hlt, shift_one p l[i] (by omega) (by omega) c1 c2, wrap_id (x := (i : Int) + 1) (by omega) (by omega)]
  exact ev_pos (by omega) (ev_pos (by omega) (ev_pos (by omega) (ev_bind (Ev.now _) q1)))
theorem rev_l0 (l : List S24) (hl : l.length ≤ 100000) (d : Nat) : ∀ (i : Nat) (x : List S24), l.length ≤ 2 * i + d → x.length = l.length → (∀ t, t < l.length → x.getD t z24 = if t < i ∨ l.length ≤ t + i then l.getD (l.length - 1 - t) z24 else l.getD t z24) →
  Ev (fun k => api_Change_78.l0 k x (i : Int) ((l.length : Int) - 1 - (i : Int))) l.reverse := by
 have fin : ∀ (i : Nat) (x : List S24), l.length ≤ 2 * i + 1 → x.length = l.length → (∀ t, t < l.length → x.getD t z24 = if t < i ∨ l.length ≤ t + i then l.getD (l.length - 1 - t) z24 else l.getD t z24) → x = l.reverse := by
  intro i x h1 h2 h3
  refine List.ext_getElem (by simpa using h2) fun t ht1 ht2 => ?_
  have h := h3 t (by omega)
  rw [List.getD_eq_getElem?_getD, List.getElem?_eq_getElem ht1, Option.getD_some] at h
  rw [h, List.getElem_reverse]
  split
  ·rw [List.getD_eq_getElem?_getD, List.getElem?_eq_getElem (by omega), Option.getD_some]
  ·rw [List.getD_eq_getElem?_getD, List.getElem?_eq_getElem (by omega), Option.getD_some]
   congr 1; omega
 induction d with
 | zero =>
  intro i x h1 h2 h3
  refine ev_off 1 ?_
  simp only [api_Change_78.l0]
  rw [← fin i x (by omega) h2 h3]
  exact ev_neg (by omega) (Ev.now _)
 | succ d ih =>
  intro i x h1 h2 h3
  by_cases hij : (i : Int) < (l.length : Int) - 1 - (i : Int)
  ·have e1 : wrap64 ((i : Int) + 1) = ((i + 1 : Nat) : Int) := by rw [wrap_id (by omega) (by omega)]; rfl
   have e2 : wrap64 ((l.length : Int) - 1 - (i : Int) - 1) = (l.length : Int) - 1 - ((i + 1 : Nat) : Int) := by rw [wrap_id (by omega) (by omega)]; omega
   have e3 : ((l.length : Int) - 1 - (i : Int)).toNat = l.length - 1 - i := by omega
   refine ev_off 1 ?_
   simp only [api_Change_78.l0, e1, e2]
   refine ev_pos hij (ev_pos (by omega) (ev_pos (by omega) (ev_pos (by omega) (ev_pos (by omega) ?_))))
   refine ih (i + 1) _ (by omega) (by simpa using h2) fun t ht => ?_
   rw [e3, Int.toNat_natCast, List.getD_eq_getElem?_getD, List.getElem?_set]
   have q1 : rd_T24 x ((l.length : Int) - 1 - (i : Int)) = l.getD (l.length - 1 - i) z24 := by
    have := h3 (l.length - 1 - i) (by omega)
    rw [if_neg (by omega)] at this
    rw [← this]; unfold rd_T24; rw [e3]
   have q2 : rd_T24 x (i : Int) = l.getD i z24 := by
    have := h3 i (by omega)
    rw [if_neg (by omega)] at this
    rw [← this]; unfold rd_T24; rw [Int.toNat_natCast]
   by_cases t1 : l.length - 1 - i = t
   ·rw [if_pos t1, if_pos (by simp; omega), if_pos (by omega), Option.getD_some, q2]
    show l.getD i z24 = _
    congr 1; omega
   ·rw [if_neg t1, List.getElem?_set]
    by_cases t2 : i = t
    ·rw [if_pos t2, if_pos (by omega), if_pos (by omega), Option.getD_some, q1]
     show l.getD (l.length - 1 - i) z24 = _
     congr 1; omega
    ·rw [if_neg t2, ← List.getD_eq_getElem?_getD, h3 t ht]
     by_cases t3 : t < i ∨ l.length ≤ t + i
     ·rw [if_pos t3, if_pos (by omega)]
     ·rw [if_neg t3, if_neg (by omega)]
  ·refine ev_off 1 ?_
   simp only [api_Change_78.l0]
   rw [← fin i x (by omega) h2 h3]
   exact ev_neg hij (Ev.now _)
theorem rev_is (l : List S24) (hl : l.length ≤ 100000) : Ev (fun k => api_Change_78.f k l) l.reverse := by
 have h := rev_l0 l hl l.length 0 l (by omega) rfl (fun t ht => by rw [if_neg (by omega)])
 have e1 : wrap64 ((l.length : Int) - 1) = (l.length : Int) - 1 - ((0 : Nat) : Int) := by rw [wrap_id (by omega) (by omega)]; omega
 unfold api_Change_78.f
 rw [e1]
 exact h
/-- Where a place goes. -/
def shl (p : Int) (l : List S24) : Int := l.foldr (fun c q => sh q c) p
theorem shift_is (l : List S24) (hl : l.length ≤ 30) (hc : ∀ c ∈ l, Near c ∧ c.f1.size ≤ 9000 ∧ c.f2.size ≤ 9000) (p : Int) (hp : -1099511627776 ≤ p ∧ p ≤ 1099511627776) : Ev (fun k => batch_Shift.f k p l) (shl p l) := by
 unfold batch_Shift.f
 have e : api_Change_77.f l = some l := by unfold api_Change_77.f; rw [if_pos (by omega)]
 simp only [e, Option.bind_some]
 refine ev_bind (rev_is l (by omega)) (ev_bind ?_ (Ev.now _))
 have q := shift_l l.reverse (by simpa using hl) (fun c hm => hc c (by simpa using hm)) l.reverse.length 0 p (by omega) (by omega)
 rw [List.drop_zero, List.foldl_reverse] at q
 exact q
theorem sh_mono {p q : Int} (c : S24) (h : p ≤ q) : sh p c ≤ sh q c := by
 unfold sh
 split <;> split <;> (try split) <;> (try split) <;> omega
theorem shl_mono {p q : Int} (l : List S24) (h : p ≤ q) : shl p l ≤ shl q l := by
 induction l with
 | nil => exact h
 | cons c l ih => exact sh_mono c ih
/-! ### Fits, Right -/
theorem place_one (t : ByteArray) (at_ : Int) : ∃ b, Ev (fun k => utf_Place.f k t at_) b ∧ (b = true → 0 ≤ at_ ∧ at_ ≤ t.size) := by
 by_cases hv : Val (bytesOf t)
 ·obtain ⟨rs, h, e⟩ := hv
  by_cases ha : ∃ xs ys, Is rs at_ xs ys
  ·obtain ⟨xs, ys, a⟩ := ha
   refine ⟨true, place_yes h e a, fun _ => ?_⟩
   obtain ⟨e1, e2⟩ := a
   have : t.size = xs.flatten.length + ys.flatten.length := by rw [← bytes_len, e, e1]; simp
   omega
  ·exact ⟨false, place_not h e (fun xs ys a => ha ⟨xs, ys, a⟩), fun h => by cases h⟩
 ·exact ⟨false, place_bad hv, fun h => by cases h⟩
theorem valid_one (t : ByteArray) : ∃ b, Ev (fun k => utf_Valid.f k t) b := by
 by_cases hv : Val (bytesOf t)
 ·exact ⟨true, valid_yes hv⟩
 ·exact ⟨false, valid_no hv⟩
theorem fits_one (t : ByteArray) (c : S24) : ∃ b, Ev (fun k => change_Fits.f k t c.f0 c.f1 c.f2) b ∧ (b = true → 0 ≤ c.f0 ∧ c.f0 + c.f1.size ≤ t.size) := by
 obtain ⟨p, p1, p2⟩ := place_one t c.f0
 obtain ⟨o, o1⟩ := valid_one c.f1
 obtain ⟨n, n1⟩ := valid_one c.f2
 unfold change_Fits.f
 cases p with
 | false => exact ⟨false, ev_bind p1 (ev_neg (by simp) (Ev.now _)), by simp⟩
 | true =>
  obtain ⟨q0, q1⟩ := p2 rfl
  cases o with
  | false => exact ⟨false, ev_bind p1 (ev_pos rfl (ev_bind o1 (ev_neg (by simp) (Ev.now _)))), by simp⟩
  | true =>
   cases n with
   | false => exact ⟨false, ev_bind p1 (ev_pos rfl (ev_bind o1 (ev_pos rfl (ev_bind n1 (ev_neg (by simp) (Ev.now _)))))), by simp⟩
   | true =>
    have hsz : (t.extract c.f0.toNat t.size).size = t.size - c.f0.toNat := by rw [ByteArray.size_extract]; omega
    have pre : ∃ b, strings_HasPrefix.f (t.extract c.f0.toNat t.size) c.f1 = some b ∧ (b = true → c.f1.size ≤ t.size - c.f0.toNat) := by
     unfold strings_HasPrefix.f stringslite_HasPrefix.f
     rw [hsz]
     by_cases g : c.f1.size ≤ t.size - c.f0.toNat
     ·rw [if_pos (by omega), if_pos (by omega), if_pos (by omega)]
      exact ⟨_, rfl, fun _ => g⟩
     ·rw [if_neg (by omega)]
      exact ⟨false, rfl, fun h => by cases h⟩
    obtain ⟨b, e, hb⟩ := pre
    refine ⟨b, ev_bind p1 (ev_pos rfl (ev_bind o1 (ev_pos rfl (ev_bind n1 (ev_pos rfl (ev_pos q0 (ev_pos q1 ?_))))))), fun h => ?_⟩
    ·rw [e]; exact Ev.now _
    ·have := hb h
     omega
theorem apart_l (l : List S24) (hl : l.length ≤ 30) (hc : ∀ c ∈ l, Near c ∧ c.f1.size ≤ 9000 ∧ c.f2.size ≤ 9000) (d : Nat) : ∀ i : Nat, 1 ≤ i → (i + d = l.length ∨ l.length ≤ i ∧ d = 0) →
  ∃ b, Ev (fun k => batch_apart.l0 k l (i : Int)) b ∧ (b = true → ∀ j, i ≤ j → (h : j < l.length) → (l[j - 1]'(by omega)).f0 + (l[j - 1]'(by omega)).f1.size ≤ l[j].f0) := by
 induction d with
 | zero =>
  intro i h1 hi
  refine ⟨true, ev_off 1 ?_, fun _ j hj h => by omega⟩
  simp only [batch_apart.l0]
  exact ev_neg (by omega) (Ev.now _)
 | succ d ih =>
  intro i h1 hi
  have hlt : i < l.length := by omega
  have hlp : i - 1 < l.length := by omega
  obtain ⟨b, q1, q2⟩ := ih (i + 1) (by omega) (by omega)
  obtain ⟨a0, a1, _⟩ := hc l[i] (List.getElem_mem hlt)
  obtain ⟨b0, b1, _⟩ := hc l[i - 1] (List.getElem_mem hlp)
  unfold Near at a0 b0
  have e0 : (i : Int) - 1 = ((i - 1 : Nat) : Int) := by omega
  have hA : -9223372036854775808 ≤ l[i].f0 - l[i - 1].f0 := by omega
  have hB : l[i].f0 - l[i - 1].f0 ≤ 9223372036854775807 := by omega
  have st : ∀ {b : Bool}, Ev (fun k => if l[i].f0 < l[i - 1].f0 then some false else if l[i].f0 - l[i - 1].f0 < (l[i - 1].f1.size : Int) then some false else batch_apart.l0 k l ((i + 1 : Nat) : Int)) b → Ev (fun k => batch_apart.l0 k l (i : Int)) b := by
   intro b hb
   refine ev_off 1 ?_
   simp only [batch_apart.l0]
   rw [wrap_id (x := (i : Int) - 1) (by omega) (by omega), wrap_id (x := (i : Int) + 1) (by omega) (by omega), e0, rd_at hlt, rd_at hlp, wrap_id (x := l[i].f0 - l[i - 1].f0) hA hB]
   exact ev_pos (by omega) (ev_pos (by omega) (ev_pos (by omega) (ev_pos (by omega) hb)))
  by_cases g1 : l[i].f0 < l[i - 1].f0
  ·exact ⟨false, st (ev_pos g1 (Ev.now _)), fun h => by cases h⟩
  by_cases g2 : l[i].f0 - l[i - 1].f0 < (l[i - 1].f1.size : Int)
  ·exact ⟨false, st (ev_neg g1 (ev_pos g2 (Ev.now _))), fun h => by cases h⟩
  refine ⟨b, st (ev_neg g1 (ev_neg g2 q1)), fun h j hj hjl => ?_⟩
  by_cases e : j = i
  ·subst e; omega
  ·exact q2 h j (by omega) hjl
theorem right_l (t : ByteArray) (l : List S24) (hl : l.length ≤ 30) (hc : ∀ c ∈ l, Near c ∧ c.f1.size ≤ 9000 ∧ c.f2.size ≤ 9000) (d : Nat) : ∀ i : Nat, i + d = l.length →
  ∃ b, Ev (fun k => batch_Right.l0 k t l l (l.length : Int) (i : Int)) b ∧ (b = true → (∀ c ∈ l.drop i, 0 ≤ c.f0 ∧ c.f0 + c.f1.size ≤ t.size) ∧ ∀ j, 1 ≤ j → (h : j < l.length) → (l[j - 1]'(by omega)).f0 + (l[j - 1]'(by omega)).f1.size ≤ l[j].f0) := by
 induction d with
 | zero =>
  intro i hi
  obtain ⟨b, q1, q2⟩ := apart_l l hl hc (l.length - 1) 1 (Nat.le_refl _) (by omega)
  refine ⟨b, ev_off 1 ?_, fun h => ⟨fun c hm => by rw [List.drop_of_length_le (by omega)] at hm; simp at hm, q2 h⟩⟩
  simp only [batch_Right.l0]
  exact ev_neg (by omega) (ev_bind q1 (Ev.now _))
 | succ d ih =>
  intro i hi
  have hlt : i < l.length := by omega
  obtain ⟨b, q1, q2⟩ := ih (i + 1) (by omega)
  obtain ⟨f, f1, f2⟩ := fits_one t l[i]
  have e2 : wrap64 ((i : Int) + 1) = ((i + 1 : Nat) : Int) := by rw [wrap_id (by omega) (by omega)]; rfl
  cases f with
  | false =>
   refine ⟨false, ev_off 1 ?_, fun h => by cases h⟩
   simp only [batch_Right.l0, e2]
   rw [rd_at hlt]
   exact ev_pos (by omega) (ev_pos (by omega) (ev_pos (by omega) (ev_bind f1 (ev_neg (by simp) (Ev.now _)))))
  | true =>
   refine ⟨b, ev_off 1 ?_, fun h => ⟨fun c hm => ?_, (q2 h).2⟩⟩
   ·simp only [batch_Right.l0, e2]
    rw [rd_at hlt]
    exact ev_pos (by omega) (ev_pos (by omega) (ev_pos (by omega) (ev_bind f1 (ev_pos rfl q1))))
   ·rw [List.drop_eq_getElem_cons hlt] at hm
    rcases List.mem_cons.1 hm with rfl | hm
    ·exact f2 rfl
    ·exact (q2 h).1 c hm
/-- One behind the other, within so many bytes. -/
def Chain (n : Nat) : Int → List S24 → Prop
 | a, [] => a ≤ (n : Int)
 | a, c :: l => a ≤ c.f0 ∧ Chain n (c.f0 + c.f1.size) l
theorem chain_drop {n : Nat} {l : List S24} (hf : ∀ c ∈ l, 0 ≤ c.f0 ∧ c.f0 + c.f1.size ≤ (n : Int)) (ha : ∀ j, 1 ≤ j → (h : j < l.length) → (l[j - 1]'(by omega)).f0 + (l[j - 1]'(by omega)).f1.size ≤ l[j].f0) (d : Nat) : ∀ (i : Nat) (a : Int), i + d = l.length → a ≤ (n : Int) → (∀ h : i < l.length, a ≤ l[i].f0) → Chain n a (l.drop i) := by
 induction d with
 | zero => intro i a hi hn _; rw [List.drop_of_length_le (by omega)]; exact hn
 | succ d ih =>
  intro i a hi hn hh
  have hlt : i < l.length := by omega
  rw [List.drop_eq_getElem_cons hlt]
  refine ⟨hh hlt, ih (i + 1) _ (by omega) (hf _ (List.getElem_mem hlt)).2 (fun h => ?_)⟩
  have := ha (i + 1) (by omega) h
  simpa using this
/-- What becomes of the bytes from a place on. -/
def outL (T : List Int) : Int → List S24 → List Int
 | a, [] => T.drop a.toNat
 | a, c :: l => (T.drop a.toNat).take (c.f0.toNat - a.toNat) ++ bytesOf c.f2 ++ outL T (c.f0 + c.f1.size) l
theorem do_l (t : ByteArray) (l : List S24) (hl : l.length ≤ 30) (ht : t.size ≤ 9000) (hc : ∀ c ∈ l, Near c ∧ c.f1.size ≤ 9000 ∧ c.f2.size ≤ 9000) (hf : ∀ c ∈ l, 0 ≤ c.f0 ∧ c.f0 + c.f1.size ≤ (t.size : Int)) (d : Nat) : ∀ (i : Nat) (a : Int) (b : ByteArray), i + d = l.length → 0 ≤ a → a ≤ (t.size : Int) → Chain t.size a (l.drop i) → b.size ≤ 18000 * i →
  ∃ s, bytesOf s = bytesOf b ++ outL (bytesOf t) a (l.drop i) ∧ Ev (fun k => batch_Do.l0 k t l (i : Int) a b) (if (s.size : Int) > 4096 then (⟨#[]⟩, 8) else (s, 0)) := by
 induction d with
 | zero =>
  intro i a b hi h0 hn hch hb
  rw [List.drop_of_length_le (by omega)]
  refine ⟨b ++ t.extract a.toNat t.size, by rw [bytes_append, bytes_drop]; rfl, ev_off 1 ?_⟩
  simp only [batch_Do.l0]
  refine ev_neg (by omega) (ev_pos h0 (ev_pos hn (ev_pos (by omega) ?_)))
  by_cases g : ((b ++ t.extract a.toNat t.size).size : Int) > 4096
  ·simp only [if_pos g]; exact Ev.now _
  ·simp only [if_neg g]; exact Ev.now _
 | succ d ih =>
  intro i a b hi h0 hn hch hb
  have hlt : i < l.length := by omega
  rw [List.drop_eq_getElem_cons hlt] at hch ⊢
  obtain ⟨g1, g2⟩ := hch
  obtain ⟨f0, f1⟩ := hf _ (List.getElem_mem hlt)
  obtain ⟨c0, c1, c2⟩ := hc _ (List.getElem_mem hlt)
  unfold Near at c0
  have hx : (t.extract a.toNat (l[i].f0).toNat).size ≤ 9000 := by rw [ByteArray.size_extract]; omega
  obtain ⟨s, s1, s2⟩ := ih (i + 1) (l[i].f0 + l[i].f1.size) (b ++ t.extract a.toNat (l[i].f0).toNat ++ l[i].f2) (by omega) (by omega) f1 g2 (by rw [ByteArray.size_append, ByteArray.size_append]; omega)
  refine ⟨s, ?_, ev_off 1 ?_⟩
  ·rw [s1, bytes_append, bytes_append, bytes_extract]
   simp only [outL, List.append_assoc]
  ·simp only [batch_Do.l0]
   rw [rd_at hlt, wrap_id (x := (i : Int) + 1) (by omega) (by omega), wrap_id (x := l[i].f0 + (l[i].f1.size : Int)) (by omega) (by omega)]
   exact ev_pos (by omega) (ev_pos (by omega) (ev_pos h0 (ev_pos g1 (ev_pos (by omega) (ev_pos ⟨by omega, by omega⟩ s2)))))
theorem shl_low {n : Nat} : ∀ (l : List S24) (a p : Int), Chain n a l → p < a → shl p l = p
 | [], _, _, _, _ => rfl
 | c :: l, a, p, h, hp => by
  have h1 : shl p l = p := shl_low l _ p h.2 (by have := h.1; omega)
  show sh (shl p l) c = p
  rw [h1]
  unfold sh
  rw [if_pos (by have := h.1; omega)]
theorem places (T : List Int) (p : Int) (hp : p ≤ (T.length : Int)) : ∀ (l : List S24) (a : Int), Chain T.length a l → 0 ≤ a → a ≤ p →
  a ≤ shl p l ∧ shl p l - a ≤ ((outL T a l).length : Int) ∧ (p < (T.length : Int) → (∀ c ∈ l, ¬ (c.f0 ≤ p ∧ p < c.f0 + c.f1.size)) → (outL T a l)[(shl p l - a).toNat]? = T[p.toNat]?)
 | [], a, h, h0, ha => by
  refine ⟨ha, ?_, fun _ _ => ?_⟩
  ·show p - a ≤ ((T.drop a.toNat).length : Int)
   rw [List.length_drop]; omega
  ·show (T.drop a.toNat)[(p - a).toNat]? = _
   rw [List.getElem?_drop]
   congr 1; omega
 | c :: l, a, h, h0, ha => by
  obtain ⟨h1, h2⟩ := h
  have hc : c.f0 + c.f1.size ≤ (T.length : Int) := by
   have : ∀ (l : List S24) (a : Int), Chain T.length a l → a ≤ (T.length : Int) := by
    intro l
    induction l with
    | nil => exact fun a h => h
    | cons d l ih => intro a h; have := ih _ h.2; have := h.1; omega
   exact this l _ h2
  have hlen : ((T.drop a.toNat).take (c.f0.toNat - a.toNat)).length = c.f0.toNat - a.toNat := by rw [List.length_take, List.length_drop]; omega
  have hf2 : (bytesOf c.f2).length = c.f2.size := bytes_len _
  have hout : ((outL T a (c :: l)).length : Int) = c.f0 - a + c.f2.size + ((outL T (c.f0 + c.f1.size) l).length : Int) := by
   simp only [outL, List.length_append, hlen, hf2]; omega
  show a ≤ sh (shl p l) c ∧ sh (shl p l) c - a ≤ _ ∧ (_ → _ → _[(sh (shl p l) c - a).toNat]? = _)
  rw [hout]
  by_cases g1 : p < c.f0
  ·have e : shl p l = p := shl_low l _ p h2 (by omega)
   have es : sh p c = p := by unfold sh; rw [if_pos g1]
   rw [e, es]
   refine ⟨ha, by omega, fun _ _ => ?_⟩
   simp only [outL, List.append_assoc]
   rw [List.getElem?_append_left (by omega), List.getElem?_take, if_pos (by omega), List.getElem?_drop]
   congr 1; omega
  by_cases g2 : p < c.f0 + c.f1.size
  ·have e : shl p l = p := shl_low l _ p h2 g2
   have es : sh p c = c.f0 := by unfold sh; rw [if_neg g1, if_pos g2]
   rw [e, es]
   exact ⟨h1, by omega, fun _ hn => absurd ⟨by omega, g2⟩ (hn c (by simp))⟩
  ·obtain ⟨i1, i2, i3⟩ := places T p hp l (c.f0 + c.f1.size) h2 (by omega) (by omega)
   have es : sh (shl p l) c = shl p l + c.f2.size - c.f1.size := by unfold sh; rw [if_neg (by omega), if_neg (by omega)]
   rw [es]
   refine ⟨by omega, by omega, fun hl hn => ?_⟩
   rw [← i3 hl (fun d hd => hn d (by simp [hd]))]
   simp only [outL]
   rw [List.getElem?_append_right (by rw [List.length_append, hlen, hf2]; omega), List.length_append, hlen, hf2]
   congr 1; omega
theorem BatchPlaces : calamuslaw09_BatchPlaces.Pure := by
 intro t l p q ht hl hp hq
 refine Ev.rounds (g := fun k => calamuslaw09_BatchPlaces.f k t l p q) ?_
 unfold calamuslaw09_BatchPlaces.f
 have big : Ev (fun k => calamuslaw09_BatchPlaces.j0 k t l p q true) true := by
  refine ev_off 1 ?_
  simp only [calamuslaw09_BatchPlaces.j0]
  exact ev_pos trivial lv
 obtain ⟨b, s1, s2⟩ := short_any t l ht hl
 refine ev_bind s1 ?_
 cases b with
 | false => exact ev_neg (by simp) big
 | true =>
  obtain ⟨h30, htot, hnear⟩ := s2 rfl
  have hc : ∀ c ∈ l, Near c ∧ c.f1.size ≤ 9000 ∧ c.f2.size ≤ 9000 := fun c hm => ⟨hnear c hm, by have := total_mem hm; omega, by have := total_mem hm; omega⟩
  refine ev_pos rfl ?_
  by_cases g1 : (t.size : Int) > 2000
  ·exact ev_pos g1 big
  refine ev_neg g1 ?_
  by_cases g2 : p < 0
  ·exact ev_pos g2 big
  refine ev_neg g2 ?_
  by_cases g3 : p ≥ (t.size : Int)
  ·exact ev_pos g3 big
  refine ev_neg g3 ?_
  by_cases g4 : q < p
  ·exact ev_pos g4 big
  refine ev_neg g4 ?_
  by_cases g5 : q ≥ (t.size : Int)
  ·rw [decide_eq_true g5]; exact big
  rw [decide_eq_false g5]
  refine ev_off 1 ?_
  simp only [calamuslaw09_BatchPlaces.j0]
  refine ev_neg (by simp) ?_
  obtain ⟨r, r1, r2⟩ := right_l t l h30 hc l.length 0 (by omega)
  cases r with
  | false => exact ev_bind (ev_bind r1 (ev_neg (by simp) (Ev.now _))) (ev_neg (by decide) lv)
  | true =>
   obtain ⟨hf, hap⟩ := r2 rfl
   rw [List.drop_zero] at hf
   have hch := chain_drop (n := t.size) hf hap l.length 0 0 (by omega) (by omega) (fun h => (hf _ (List.getElem_mem h)).1)
   obtain ⟨s, e1, e2⟩ := do_l t l h30 (by omega) hc hf l.length 0 0 ⟨#[]⟩ (by omega) (by omega) (by omega) hch (by show 0 ≤ _; omega)
   rw [List.drop_zero] at hch e1
   have hdo : Ev (fun k => batch_Do.f k t l) (if (s.size : Int) > 4096 then (⟨#[]⟩, 8) else (s, 0)) := ev_bind r1 (ev_pos rfl e2)
   by_cases gs : (s.size : Int) > 4096
   ·rw [if_pos gs] at hdo
    exact ev_bind hdo (ev_neg (by decide) lv)
   rw [if_neg gs] at hdo
   refine ev_bind hdo (ev_pos rfl (ev_bind (shift_is l h30 hc p (by omega)) (ev_bind (shift_is l h30 hc q (by omega)) ?_)))
   have hlenT : (bytesOf t).length = t.size := bytes_len t
   rw [← hlenT] at hch
   obtain ⟨p1, p2, p3⟩ := places (bytesOf t) p (by rw [hlenT]; omega) l 0 hch (by omega) (by omega)
   have e1' : bytesOf s = outL (bytesOf t) 0 l := by rw [e1, bytes_empty, List.nil_append]
   rw [← e1', bytes_len, Int.sub_zero] at p2
   have hm := shl_mono l (show p ≤ q by omega)
   refine ev_neg (by omega) (ev_neg (by show ¬ shl p l > (s.size : Int); omega) ?_)
   rw [decide_eq_false (show ¬ shl p l > shl q l by omega)]
   refine ev_off 1 ?_
   simp only [calamuslaw09_BatchPlaces.j1]
   refine ev_neg (by simp) ?_
   have lp : ∀ (d i : Nat), i + d = l.length → (∀ c ∈ l.take i, ¬ (c.f0 ≤ p ∧ p < c.f0 + c.f1.size)) → Ev (fun k => calamuslaw09_BatchPlaces.l0 k t l p s (shl p l) (i : Int)) true := by
    intro d
    induction d with
    | zero =>
     intro i hi hno
     rw [List.take_of_length_le (by omega)] at hno
     have h3 := p3 (by rw [hlenT]; omega) hno
     rw [← e1', Int.sub_zero] at h3
     have hpl : p.toNat < (bytesOf t).length := by rw [hlenT]; omega
     rw [List.getElem?_eq_getElem hpl] at h3
     have hsl := (List.getElem?_eq_some_iff.1 h3).1
     rw [bytes_len] at hsl
     refine ev_off 1 ?_
     simp only [calamuslaw09_BatchPlaces.l0]
     refine ev_neg (by omega) (ev_pos (by omega) (ev_pos (by omega) (ev_pos (by omega) (ev_pos (by omega) (ev_pos ?_ lv)))))
     rw [bytes_get, bytes_get, List.getD_eq_getElem?_getD, List.getD_eq_getElem?_getD, h3, List.getElem?_eq_getElem hpl]
    | succ d ih =>
     intro i hi hno
     have hlt : i < l.length := by omega
     obtain ⟨c0, c1, c2⟩ := hc _ (List.getElem_mem hlt)
     unfold Near at c0
     refine ev_off 1 ?_
     simp only [calamuslaw09_BatchPlaces.l0]
     rw [rd_at hlt, wrap_id (x := (i : Int) + 1) (by omega) (by omega), wrap_id (x := l[i].f0 + (l[i].f1.size : Int)) (by omega) (by omega)]
     refine ev_pos (by omega) (ev_pos (by omega) ?_)
     have nx : ¬ (l[i].f0 ≤ p ∧ p < l[i].f0 + l[i].f1.size) → Ev (fun k => calamuslaw09_BatchPlaces.l0 k t l p s (shl p l) ((i : Int) + 1)) true := fun hn => ih (i + 1) (by omega) (fun c hm => by
      rw [List.take_succ_eq_append_getElem hlt] at hm
      rcases List.mem_append.1 hm with hm | hm
      ·exact hno c hm
      ·obtain rfl : c = l[i] := by simpa using hm
       exact hn)
     by_cases k1 : p ≥ l[i].f0
     ·refine ev_pos k1 ?_
      by_cases k2 : p < l[i].f0 + l[i].f1.size
      ·exact ev_pos k2 lv
      ·exact ev_neg k2 (nx (fun h => k2 h.2))
     ·exact ev_neg k1 (nx (fun h => k1 h.1))
   exact lp l.length 0 (by omega) (fun c hm => by simp at hm)
end Go.Proofs.Ytkiokimpblimcaa.Pure
