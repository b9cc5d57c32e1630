/- KeyJoins: keys behind keys are told by their texts, one behind the other; the keys, one by one, are all there. -/
import Derived.Test.YtealbonfaebikaaKeyJoinsKey
namespace Go.Proofs.Ytealbonfaebikaa.Pure
open Go.RowKit Go.Proofs.YtealbonfaebikaaW.PrintWords Go.Proofs.YtealbonfaebikaaW.PrintLast Go.Proofs.YtealbonfaebikaaW.PrintMore
open Go.Proofs.Ytealbonfaebikaa.PKeyJoins Go.Proofs.Ytealbonfaebikaa.Utf Go.Proofs.Ytealbonfaebikaa.Open Go.Proofs.Ytealbonfaebikaa.KeyJoinsUtf Go.Proofs.Ytealbonfaebikaa.KeyJoinsKey
set_option linter.unusedVariables false
theorem glue_app (l m : List ByteArray) : glueB (l ++ m) = glueB l ++ glueB m := bytes_inj (by rw [bytes_append, bytes_glue, bytes_glue, bytes_glue, List.flatMap_append])
theorem glue_str {s : ByteArray} {rs : List (List Int)} (h : All rs) (e : bytesOf s = rs.flatten) : glueB (rs.map strOfNums) = s := by
 apply bytes_inj
 rw [bytes_glue, e]
 have : ∀ xs : List (List Int), (∀ r ∈ xs, r ∈ rs) → (xs.map strOfNums).flatMap bytesOf = xs.flatten := by
  intro xs
  induction xs with
  | nil => intro _; rfl
  | cons r xs ih =>
   intro hx
   rw [List.map_cons, List.flatMap_cons, List.flatten_cons, ih (fun r hr => hx r (by simp [hr])), (runes_four h e r (hx r (by simp))).1]
 exact this rs (fun _ h => h)
theorem txt_size {s : ByteArray} {rs : List (List Int)} (h : All rs) (e : bytesOf s = rs.flatten) : (txt rs).size ≤ 7 * rs.length := by
 unfold txt
 rw [glue_size]
 have := sum_le (rs.map fun r => nam (strOfNums r)) (fun t ht => by obtain ⟨r, hr, rfl⟩ := List.mem_map.1 ht; exact nam_size _ (runes_four h e r hr).2)
 rw [List.length_map] at this
 exact this
theorem loop_is (a b : ByteArray) (ha : a.size ≤ 1000) (hb : b.size ≤ 1000) (ra rb : List (List Int)) (h : All (ra ++ rb)) (e : bytesOf (a ++ b) = (ra ++ rb).flatten) (g : allR (ra ++ rb) = true)
  (hra : (txt ra).size ≤ 10000) (hrb : (txt rb).size ≤ 10000) (d : Nat) : ∀ i : Nat, i + d = (ra ++ rb).length →
  Ev (fun k => calamuslaw13_KeyJoins.l0 k a b (txt ra) (txt rb) (txt (ra ++ rb)) 0 ((ra ++ rb).map strOfNums) 0 (glueB (((ra ++ rb).map strOfNums).take i)) i) true := by
 have hz : (a ++ b).size ≤ 2000 := by rw [ByteArray.size_append]; omega
 have hn := runes_len h e
 have hs4 := runes_four h e
 have hall := glue_str h e
 have htx : txt (ra ++ rb) = txt ra ++ txt rb := by unfold txt; rw [List.map_append, glue_app]
 induction d with
 | zero =>
  intro i hi
  refine ev_off 1 ?_
  simp only [calamuslaw13_KeyJoins.l0]
  rw [List.take_of_length_le (by rw [List.length_map]; omega), hall]
  refine ev_neg (by rw [List.length_map]; omega) (ev_pos (by omega) (ev_pos (by rw [htx]) (evr (evr (ev_pos (by omega) (evr ?_))))))
  exact ev_bind lives_ (Ev.now _)
 | succ d ih =>
  intro i hi
  have hlt : i < ((ra ++ rb).map strOfNums).length := by rw [List.length_map]; omega
  refine ev_off 1 ?_
  simp only [calamuslaw13_KeyJoins.l0]
  rw [rdO hlt]
  have hm := List.getElem_mem hlt
  obtain ⟨r, hr, hre⟩ := List.mem_map.1 hm
  have h4 := (hs4 r hr).2
  have hg : rgt (strOfNums r) = true := by unfold allR at g; exact List.all_eq_true.1 g r hr
  have hsz : (glueB (((ra ++ rb).map strOfNums).take i)).size ≤ 4 * i := by
   rw [glue_size]
   have : ∀ l : List ByteArray, (∀ t ∈ l, t.size ≤ 4) → (l.map ByteArray.size).sum ≤ 4 * l.length := by
    intro l
    induction l with
    | nil => intro _; simp
    | cons x l ihl => intro hx; have := ihl (fun t ht => hx t (by simp [ht])); have := hx x (by simp); simp; omega
   have q := this (((ra ++ rb).map strOfNums).take i) (fun t ht => by obtain ⟨u, hu, rfl⟩ := List.mem_map.1 (List.mem_of_mem_take ht); exact (hs4 u hu).2)
   rw [List.length_take] at q
   omega
  rw [← hre]
  refine ev_pos (by omega) (ev_pos (by omega) (ev_bind (right_is _ (by omega)) (ev_pos hg (ev_pos (by omega) ?_))))
  rw [hre, wrap_id (x := (i : Int) + 1) (by omega) (by omega)]
  have q := ih (i + 1) (by omega)
  rw [List.take_succ_eq_append_getElem hlt, glue_app] at q
  have e1 : glueB [((ra ++ rb).map strOfNums)[i]] = ((ra ++ rb).map strOfNums)[i] := bytes_inj (by rw [bytes_glue]; simp)
  rw [e1] at q
  exact q
/-- What a text of keys tells. -/
theorem text_or (s : ByteArray) (hs : s.size ≤ 1000000) : (∃ rs, All rs ∧ bytesOf s = rs.flatten ∧ allR rs = true ∧ Ev (fun k => key_Text.f k s) (txt rs, 0)) ∨ ∃ e : Int, e ≠ 0 ∧ Ev (fun k => key_Text.f k s) (⟨#[]⟩, e) := by
 by_cases hv : Val (bytesOf s)
 ·obtain ⟨rs, h, e⟩ := hv
  have q := text_yes hs h e
  by_cases g : allR rs = true
  ·rw [if_pos g] at q; exact .inl ⟨rs, h, e, g, q⟩
  ·rw [if_neg g] at q; exact .inr ⟨9, by decide, q⟩
 ·exact .inr ⟨5, by decide, text_no hv⟩
theorem j0_is (a b : ByteArray) (ha : a.size ≤ 1000) (hb : b.size ≤ 1000) : Ev (fun k => calamuslaw13_KeyJoins.j0 k a b false) true := by
 refine ev_off 1 ?_
 simp only [calamuslaw13_KeyJoins.j0]
 refine ev_neg (by simp) ?_
 have lv : Ev (fun k => (calamuslaw13_lives.f k).bind fun t => some t) true := ev_bind lives_ (Ev.now _)
 rcases text_or a (by omega) with ⟨ra, h1, e1, g1, q1⟩ | ⟨e1, n1, q1⟩
 ·rcases text_or b (by omega) with ⟨rb, h2, e2, g2, q2⟩ | ⟨e2, n2, q2⟩
  ·refine ev_bind q1 (ev_bind q2 (evr (ev_off 1 ?_)))
   simp only [calamuslaw13_KeyJoins.j1]
   have hz : (a ++ b).size ≤ 1000000 := by rw [ByteArray.size_append]; omega
   have hA : All (ra ++ rb) := h1.append h2
   have hE : bytesOf (a ++ b) = (ra ++ rb).flatten := by rw [bytes_append, e1, e2, List.flatten_append]
   have hG : allR (ra ++ rb) = true := by unfold allR at *; rw [List.all_append, g1, g2]; rfl
   have t := text_yes hz hA hE
   have sp := split_yes hz hA hE
   rw [if_pos hG] at t sp
   have l1 := txt_size h1 e1
   have l2 := txt_size h2 e2
   have m1 := runes_len h1 e1
   have m2 := runes_len h2 e2
   refine ev_neg (by decide) (ev_pos (by omega) (ev_bind t (ev_bind sp ?_)))
   exact loop_is a b ha hb ra rb hA hE hG (by omega) (by omega) (ra ++ rb).length 0 (by omega)
  ·refine ev_bind q1 (ev_bind q2 (evr (ev_off 1 ?_)))
   simp only [calamuslaw13_KeyJoins.j1]
   exact ev_pos (by simpa using n2) (evr (ev_neg n2 (evr lv)))
 ·rcases text_or b (by omega) with ⟨rb, h2, e2, g2, q2⟩ | ⟨e2, n2, q2⟩
  ·refine ev_bind q1 (ev_bind q2 (ev_neg n1 (ev_off 1 ?_)))
   simp only [calamuslaw13_KeyJoins.j1]
   exact evr (ev_neg n1 (evr (evr lv)))
  ·refine ev_bind q1 (ev_bind q2 (ev_neg n1 (ev_off 1 ?_)))
   simp only [calamuslaw13_KeyJoins.j1]
   exact evr (ev_neg n1 (evr (ev_neg n2 (evr lv))))
theorem KeyJoins : calamuslaw13_KeyJoins.Pure := by
 intro a b _ _
 refine Ev.rounds (g := fun k => calamuslaw13_KeyJoins.f k a b) ?_
 unfold calamuslaw13_KeyJoins.f
 have big : Ev (fun k => calamuslaw13_KeyJoins.j0 k a b true) true := by
  refine ev_off 1 ?_
  simp only [calamuslaw13_KeyJoins.j0]
  exact evr (ev_bind lives_ (Ev.now _))
 by_cases h1 : (a.size : Int) > 1000
 ·exact ev_pos h1 big
 ·refine ev_neg h1 ?_
  by_cases h2 : (b.size : Int) > 1000
  ·rw [decide_eq_true h2]; exact big
  ·rw [decide_eq_false h2]; exact j0_is a b (by omega) (by omega)
end Go.Proofs.Ytealbonfaebikaa.Pure
