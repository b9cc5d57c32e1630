/- What the printed functions of layer 8, the program's and the document's, tell.
   Template: Ytkiokimpblimcaa the seat's name, ChangeDoes the law's key; in pieces. -/
import Derived.Test.YtkiokimpblimcaaChangeDoesUtf
namespace Go.Proofs.Ytkiokimpblimcaa.ChangeDoesChange
open Go.RowKit Go.Proofs.YtkiokimpblimcaaW.PrintWords Go.Proofs.YtkiokimpblimcaaW.PrintLast Go.Proofs.YtkiokimpblimcaaW.PrintMore
open Go.Proofs.Ytkiokimpblimcaa.PChangeDoes Go.Proofs.Ytkiokimpblimcaa.Utf Go.Proofs.Ytkiokimpblimcaa.ChangeDoesUtf Go.Proofs.Ytkiokimpblimcaa.Open
set_option linter.unusedVariables false
set_option linter.unusedSimpArgs false

theorem lives_ : Ev (fun k => calamuslaw08_lives.f k) true := Ev.of calamuslaw08_lives.mono (k := 40) (by decide +kernel)
/-- How many bytes changes have. -/
def total (l : List S24) : Nat := (l.map (fun c => c.f1.size + c.f2.size)).sum
theorem total_nil : total [] = 0 := rfl
theorem total_cons (c : S24) (l : List S24) : total (c :: l) = c.f1.size + c.f2.size + total l := by simp [total]
theorem total_append (a b : List S24) : total (a ++ b) = total a + total b := by simp [total]
theorem total_mem {l : List S24} {c : S24} (h : c ∈ l) : c.f1.size + c.f2.size ≤ total l := by
  obtain ⟨a, b, rfl⟩ := List.append_of_mem h
  rw [total_append, total_cons]; omega
theorem rd_at {l : List S24} {i : Nat} (h : i < l.length) : rd_T24 l (i : Int) = l[i] := by
  unfold rd_T24
  rw [Int.toNat_natCast, List.getD_eq_getElem?_getD, List.getElem?_eq_getElem h]; rfl
theorem short_l (l : List S24) (hl : ∀ c ∈ l, c.f1.size ≤ 140737488351232 ∧ c.f2.size ≤ 140737488351232) (hll : l.length ≤ 1000000000000000) (d : Nat) : ∀ (i n : Nat), i + d = min l.length 31 → n ≤ 140737488351232 * (1 + 2 * i) →
    Ev (fun k => calamuslaw08_short.l0 k l n i) (decide (l.length ≤ 30 ∧ n + total ((l.drop i).take d) ≤ 9000)) := by
  induction d with
  | zero =>
    intro i n hi hn
    refine ev_from 1 fun k => ?_
    show calamuslaw08_short.l0 (k + 1) l n i = _
    rw [calamuslaw08_short.l0]
    have tail : (if (l.length : Int) ≤ 30 then some (decide ((n : Int) ≤ 9000)) else some false) = some (decide (l.length ≤ 30 ∧ n + total ((l.drop i).take 0) ≤ 9000)) := by
      rw [List.take_zero, total_nil]
      by_cases g : l.length ≤ 30
      · rw [if_pos (by omega)]; congr 1; rw [decide_eq_decide]; omega
      · rw [if_neg (by omega), decide_eq_false (fun h => g h.1)]
    by_cases g : (i : Int) < (l.length : Int)
    · rw [if_pos g, if_neg (by omega), tail]
    · rw [if_neg g, tail]
  | succ d ih =>
    intro i n hi hn
    have hlt : i < l.length := by omega
    have hc := hl l[i] (List.getElem_mem hlt)
    have q := ih (i + 1) (n + (l[i].f1.size + l[i].f2.size)) (by omega) (by omega)
    rw [show n + total ((l.drop i).take (d + 1)) = n + (l[i].f1.size + l[i].f2.size) + total ((l.drop (i + 1)).take d) from by rw [List.drop_eq_getElem_cons hlt, List.take_succ_cons, total_cons]; omega]
    refine Ev.step (fun k => ?_) q
    rw [calamuslaw08_short.l0, if_pos (by omega), if_pos (by omega), if_pos (by omega), rd_at hlt, wrap_id (x := (l[i].f1.size : Int) + l[i].f2.size) (by omega) (by omega), wrap_id (x := (n : Int) + _) (by omega) (by omega), wrap_id (x := (i : Int) + 1) (by omega) (by omega)]
    congr 1
theorem short_any (t : ByteArray) (l : List S24) (ht : bStr t) (hl : bSl 40 b24 l) : Ev (fun k => calamuslaw08_short.f k t l) (decide (l.length ≤ 30 ∧ t.size + total l ≤ 9000)) := by
  unfold bStr at ht
  have h1 := hl.1
  have hb : ∀ c ∈ l, c.f1.size ≤ 140737488351232 ∧ c.f2.size ≤ 140737488351232 := fun c hc => (hl.2 c hc).2
  have q := short_l l hb (by omega) (min l.length 31) 0 t.size (by omega) (by omega)
  unfold calamuslaw08_short.f
  have e : (decide (l.length ≤ 30 ∧ t.size + total ((l.drop 0).take (min l.length 31)) ≤ 9000)) = decide (l.length ≤ 30 ∧ t.size + total l ≤ 9000) := by
    rw [decide_eq_decide, List.drop_zero]
    constructor <;> rintro ⟨a, b⟩ <;> refine ⟨a, ?_⟩
    · rwa [List.take_of_length_le (by omega)] at b
    · rwa [List.take_of_length_le (by omega)]
  rw [← e]
  exact q
theorem rvalid_of {s : ByteArray} {l : List Int} (h : Ev (fun k => calamusref03_Split.f k s) l) : Ev (fun k => calamusref03_Valid.f k s) (decide ((l.length : Int) > 0)) := by
  unfold calamusref03_Valid.f
  exact ev_bind h (Ev.now _)
theorem valid_both (s : ByteArray) (hs : s.size ≤ 10000000000) : ∃ b, Ev (fun k => utf_Valid.f k s) b ∧ Ev (fun k => calamusref03_Valid.f k s) b ∧ (b = true ↔ Val (bytesOf s)) := by
  by_cases hv : Val (bytesOf s)
  · obtain ⟨rs, h, e⟩ := hv
    have := rvalid_of (split_yes (by omega) h e)
    rw [decide_eq_true (by rw [cum_length]; omega)] at this
    exact ⟨true, valid_yes ⟨rs, h, e⟩, this, by simp; exact ⟨rs, h, e⟩⟩
  · have := rvalid_of (split_no (by omega) hv)
    rw [decide_eq_false (by simp)] at this
    exact ⟨false, valid_no hv, this, by simp [hv]⟩
theorem rplace_is {s : ByteArray} {at_ r : Int} {l : List Int} (h : Ev (fun k => calamusref03_Split.f k s) l) (f : Ev (fun k => calamusref03_find.f k l at_) r) : Ev (fun k => calamusref03_Place.f k s at_) (decide (r ≥ 0)) := by
  unfold calamusref03_Place.f
  exact ev_bind h (ev_bind f (Ev.now _))
theorem place_both (s : ByteArray) (at_ : Int) (hs : s.size ≤ 10000000000) : ∃ b, Ev (fun k => utf_Place.f k s at_) b ∧ Ev (fun k => calamusref03_Place.f k s at_) b ∧ (b = true → ∃ rs xs ys, All rs ∧ bytesOf s = rs.flatten ∧ Is rs at_ xs ys) := by
  by_cases hv : Val (bytesOf s)
  · obtain ⟨rs, h, e⟩ := hv
    have hl := flat_len rs h
    rw [← e, bytes_len] at hl
    have sp := split_yes (by omega) h e
    by_cases hp : ∃ xs ys, Is rs at_ xs ys
    · obtain ⟨xs, ys, a⟩ := hp
      have := rplace_is sp (find_yes h (by omega) a)
      rw [decide_eq_true (by omega)] at this
      exact ⟨true, place_yes h e a, this, fun _ => ⟨rs, xs, ys, h, e, a⟩⟩
    · have hp' : ∀ xs ys, ¬ Is rs at_ xs ys := fun xs ys a => hp ⟨xs, ys, a⟩
      have := rplace_is sp (find_no (by omega) hp')
      rw [decide_eq_false (by omega)] at this
      exact ⟨false, place_not h e hp', this, fun h => by simp at h⟩
  · have := rplace_is (split_no (by omega) hv) (find_nil at_)
    rw [decide_eq_false (by omega)] at this
    exact ⟨false, place_bad hv, this, fun h => by simp at h⟩
theorem place_in_text {s : ByteArray} {rs xs ys : List (List Int)} {at_ : Int} (e : bytesOf s = rs.flatten) (a : Is rs at_ xs ys) : 0 ≤ at_ ∧ at_ ≤ s.size ∧ at_.toNat = xs.flatten.length := by
  have hsz : s.size = rs.flatten.length := by rw [← e, bytes_len]
  rw [a.1, List.flatten_append, List.length_append] at hsz
  have := a.2
  omega
theorem fits_both (t : ByteArray) (c : S24) (ht : t.size ≤ 9000) (h1 : c.f1.size ≤ 9000) (h2 : c.f2.size ≤ 9000) (hc : bInt .i64 c.f0) :
    ∃ b, Ev (fun k => change_Fits.f k t c.f0 c.f1 c.f2) b ∧ Ev (fun k => calamusref08_Fits.f k t c.f0 c.f1 c.f2) b ∧ (b = true → 0 ≤ c.f0 ∧ c.f0 + c.f1.size ≤ t.size) := by
  obtain ⟨v, v1, v2, v3⟩ := valid_both t (by omega)
  obtain ⟨o, o1, o2, _⟩ := valid_both c.f1 (by omega)
  obtain ⟨n, n1, n2, _⟩ := valid_both c.f2 (by omega)
  obtain ⟨p, p1, p2, p3⟩ := place_both t c.f0 (by omega)
  have hr := i64_range hc
  unfold change_Fits.f calamusref08_Fits.f
  cases p with
  | false =>
    refine ⟨false, ev_bind p1 (ev_neg (by simp) (Ev.now _)), ?_, by simp⟩
    refine ev_bind v2 ?_
    cases v
    · exact ev_neg (by simp) (Ev.now _)
    refine ev_pos rfl (ev_bind o2 ?_)
    cases o
    · exact ev_neg (by simp) (Ev.now _)
    refine ev_pos rfl (ev_bind n2 ?_)
    cases n
    · exact ev_neg (by simp) (Ev.now _)
    exact ev_pos rfl (ev_bind p2 (ev_neg (by simp) (Ev.now _)))
  | true =>
    obtain ⟨rs, xs, ys, hrs, e, a⟩ := p3 rfl
    obtain rfl : v = true := v3.2 ⟨rs, hrs, e⟩
    obtain ⟨q0, q1, q2⟩ := place_in_text e a
    cases o with
    | false => exact ⟨false, ev_bind p1 (ev_pos rfl (ev_bind o1 (ev_neg (by simp) (Ev.now _)))), ev_bind v2 (ev_pos rfl (ev_bind o2 (ev_neg (by simp) (Ev.now _)))), by simp⟩
    | true =>
      cases n with
      | false => exact ⟨false, ev_bind p1 (ev_pos rfl (ev_bind o1 (ev_pos rfl (ev_bind n1 (ev_neg (by simp) (Ev.now _)))))), ev_bind v2 (ev_pos rfl (ev_bind o2 (ev_pos rfl (ev_bind n2 (ev_neg (by simp) (Ev.now _)))))), by simp⟩
      | true =>
        have hsz : (t.extract c.f0.toNat t.size).size = t.size - c.f0.toNat := by rw [ByteArray.size_extract]; omega
        have pre : strings_HasPrefix.f (t.extract c.f0.toNat t.size) c.f1 = some (decide (c.f1.size ≤ t.size - c.f0.toNat ∧ t.extract c.f0.toNat (c.f0.toNat + c.f1.size) = c.f1)) := by
          unfold strings_HasPrefix.f stringslite_HasPrefix.f
          rw [hsz]
          by_cases g : c.f1.size ≤ t.size - c.f0.toNat
          · rw [if_pos (by omega), if_pos (by omega), if_pos (by omega), Int.toNat_natCast, Option.bind_some]
            congr 1
            have ex : (t.extract c.f0.toNat t.size).extract 0 c.f1.size = t.extract c.f0.toNat (c.f0.toNat + c.f1.size) := by
              apply bytes_inj
              rw [bytes_extract, bytes_drop, bytes_extract, List.drop_zero, Nat.sub_zero, Nat.add_sub_cancel_left]
            rw [ex, Bool.eq_iff_iff, beq_iff_eq, decide_eq_true_iff, toList_inj]
            simp [g]
          · rw [if_neg (by omega), decide_eq_false (fun h => g h.1)]; rfl
        refine ⟨decide (c.f1.size ≤ t.size - c.f0.toNat ∧ t.extract c.f0.toNat (c.f0.toNat + c.f1.size) = c.f1), ev_bind p1 (ev_pos rfl (ev_bind o1 (ev_pos rfl (ev_bind n1 (ev_pos rfl (ev_pos q0 (ev_pos q1 ?_))))))), ev_bind v2 (ev_pos rfl (ev_bind o2 (ev_pos rfl (ev_bind n2 (ev_pos rfl (ev_bind p2 (ev_pos rfl ?_))))))), fun h => ?_⟩
        · rw [pre]; exact Ev.now _
        · rw [wrap_id (x := (t.size : Int) - c.f0) (by omega) (by omega), wrap_id (x := c.f0 + (c.f1.size : Int)) (by omega) (by omega)]
          by_cases g : c.f1.size ≤ t.size - c.f0.toNat
          · refine ev_pos (by omega) (ev_pos q0 (ev_pos (by omega) (ev_pos (by omega) ?_)))
            refine ev_const fun k => ?_
            congr 1
            rw [show (c.f0 + (c.f1.size : Int)).toNat = c.f0.toNat + c.f1.size from by omega, Bool.eq_iff_iff, beq_iff_eq, decide_eq_true_iff, toList_inj]
            simp [g]
          · rw [decide_eq_false (fun h => g h.1)]
            exact ev_neg (by omega) (Ev.now _)
        · have := (of_decide_eq_true h).1
          omega
theorem do_l (l : List S24) (hl : l.length ≤ 30) (hc : ∀ c ∈ l, c.f1.size ≤ 9000 ∧ c.f2.size ≤ 9000 ∧ bInt .i64 c.f0) (d : Nat) : ∀ (i : Nat) (t : ByteArray), i + d = l.length → t.size ≤ 9000 →
    ∃ r, Ev (fun k => change_Do.l0 k t l l.length i) r ∧ Ev (fun k => calamusref08_Do.l0 k t l i) r := by
  induction d with
  | zero =>
    intro i t hi ht
    refine ⟨(t, 0), ev_from 1 fun k => ?_, ev_from 1 fun k => ?_⟩
    · show change_Do.l0 (k + 1) t l l.length i = _
      rw [change_Do.l0, if_neg (by omega)]
    · show calamusref08_Do.l0 (k + 1) t l i = _
      rw [calamusref08_Do.l0, if_neg (by omega)]
  | succ d ih =>
    intro i t hi ht
    have hlt : i < l.length := by omega
    obtain ⟨c1, c2, c3⟩ := hc l[i] (List.getElem_mem hlt)
    obtain ⟨b, f1, f2, f3⟩ := fits_both t l[i] ht c1 c2 c3
    generalize hcc : l[i] = c at *
    have hr := i64_range c3
    have e1 : wrap64 ((i : Int) + 1) = ((i + 1 : Nat) : Int) := by rw [wrap_id (by omega) (by omega)]; rfl
    have one : ∀ r, Ev (fun k => change_one.f k t c.f0 c.f1 c.f2) r → r.2 ≠ 0 → Ev (fun k => change_Do.l0 k t l l.length i) ((⟨#[]⟩ : ByteArray), r.2) := by
      intro r h1 h2
      refine ev_off 1 ?_
      simp only [change_Do.l0, rd_at hlt, hcc]
      exact ev_pos (by omega) (ev_pos (by omega) (ev_pos (by omega) (ev_bind h1 (ev_neg h2 (Ev.now _)))))
    cases b with
    | false =>
      refine ⟨((⟨#[]⟩ : ByteArray), 1), one ((⟨#[]⟩ : ByteArray), 1) ?_ (by simp), ?_⟩
      · unfold change_one.f
        exact ev_bind f1 (ev_neg (by simp) (Ev.now _))
      · refine ev_off 1 ?_
        simp only [calamusref08_Do.l0, rd_at hlt, hcc]
        exact ev_pos (by omega) (ev_pos (by omega) (ev_bind f2 (ev_neg (by simp) (Ev.now _))))
    | true =>
      obtain ⟨g0, g1⟩ := f3 rfl
      have ew : wrap64 (c.f0 + (c.f1.size : Int)) = c.f0 + c.f1.size := by rw [wrap_id (by omega) (by omega)]
      have s1 : (t.extract 0 c.f0.toNat).size = c.f0.toNat := by rw [ByteArray.size_extract]; omega
      have s2 : (t.extract (c.f0 + (c.f1.size : Int)).toNat t.size).size = t.size - (c.f0 + (c.f1.size : Int)).toNat := by rw [ByteArray.size_extract]; omega
      have s3 : (t.extract 0 c.f0.toNat ++ c.f2).size = c.f0.toNat + c.f2.size := by rw [ByteArray.size_append, s1]
      have s4 : (t.extract 0 c.f0.toNat ++ c.f2 ++ t.extract (c.f0 + (c.f1.size : Int)).toNat t.size).size = c.f0.toNat + c.f2.size + (t.size - (c.f0 + (c.f1.size : Int)).toNat) := by rw [ByteArray.size_append, s3, s2]
      by_cases big : ((t.extract 0 c.f0.toNat ++ c.f2 ++ t.extract (c.f0 + (c.f1.size : Int)).toNat t.size).size : Int) > 4096
      · refine ⟨((⟨#[]⟩ : ByteArray), 8), one ((⟨#[]⟩ : ByteArray), 8) ?_ (by simp), ?_⟩
        · unfold change_one.f
          simp only [ew]
          exact ev_bind f1 (ev_pos rfl (ev_pos g0 (ev_pos (by omega) (ev_pos (by omega) (ev_pos (by omega) (ev_pos (by omega) (ev_pos (by omega) (ev_pos big (Ev.now _)))))))))
        · refine ev_off 1 ?_
          simp only [calamusref08_Do.l0, rd_at hlt, hcc, ew]
          exact ev_pos (by omega) (ev_pos (by omega) (ev_bind f2 (ev_pos rfl (ev_pos g0 (ev_pos (by omega) (ev_pos (by omega) (ev_pos (by omega) (ev_pos (by omega) (ev_pos (by omega) (ev_pos big (Ev.now _)))))))))))
      · obtain ⟨r, q1, q2⟩ := ih (i + 1) (t.extract 0 c.f0.toNat ++ c.f2 ++ t.extract (c.f0 + (c.f1.size : Int)).toNat t.size) (by omega) (by omega)
        refine ⟨r, ?_, ?_⟩
        · refine ev_off 1 ?_
          simp only [change_Do.l0, rd_at hlt, hcc, e1]
          refine ev_pos (by omega) (ev_pos (by omega) (ev_pos (by omega) (ev_bind (a := (t.extract 0 c.f0.toNat ++ c.f2 ++ t.extract (c.f0 + (c.f1.size : Int)).toNat t.size, 0)) ?_ (ev_pos rfl q1))))
          unfold change_one.f
          simp only [ew]
          exact ev_bind f1 (ev_pos rfl (ev_pos g0 (ev_pos (by omega) (ev_pos (by omega) (ev_pos (by omega) (ev_pos (by omega) (ev_pos (by omega) (ev_neg big (Ev.now _)))))))))
        · refine ev_off 1 ?_
          simp only [calamusref08_Do.l0, rd_at hlt, hcc, ew, e1]
          exact ev_pos (by omega) (ev_pos (by omega) (ev_bind f2 (ev_pos rfl (ev_pos g0 (ev_pos (by omega) (ev_pos (by omega) (ev_pos (by omega) (ev_pos (by omega) (ev_pos (by omega) (ev_neg big q2))))))))))
end Go.Proofs.Ytkiokimpblimcaa.ChangeDoesChange
