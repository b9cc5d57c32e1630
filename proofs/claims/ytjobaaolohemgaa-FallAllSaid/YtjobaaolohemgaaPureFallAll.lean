/- FallAll: all choices are different, as far as they are counted, and the last one is what is loose itself; the least numbers of each are it. -/
import Derived.Test.YtjobaaolohemgaaFallAllFall
namespace Go.Proofs.Ytjobaaolohemgaa.Pure
open Go.RowKit Go.Proofs.YtjobaaolohemgaaW.PrintWords Go.Proofs.YtjobaaolohemgaaW.PrintLast Go.Proofs.YtjobaaolohemgaaW.PrintMore
open Go.Proofs.Ytjobaaolohemgaa.PFallAll Go.Proofs.Ytjobaaolohemgaa.Open Go.Proofs.Ytjobaaolohemgaa.FallAllFall
set_option linter.unusedVariables false

def el (d : Int) (l : List Int) (i : Nat) : S58 := ⟨nx d l i 0, (List.range l.length).map (fun k : Nat => nx d l i (k + 1))⟩
section
variable {d : Int} {l : List Int}
theorem nx_lt (h : (d :: l).all okn = true) (n : Int) (hn : 0 ≤ n ∧ n ≤ 1073741824) (k : Nat) (hk : k ≤ l.length) : 0 ≤ nx d l n k ∧ nx d l n k < rm_ d l k := by
 have hr := rm_pos h k hk
 rw [nx_is d l n hn (fun k hk => (rm_pos h k hk).1) k hk]
 exact ⟨Int.emod_nonneg _ (by omega), Int.emod_lt_of_pos _ (by omega)⟩
theorem nth_is (h : (d :: l).all okn = true) (hl : l.length ≤ 30) (i : Nat) (hi : (i : Int) < cntAll (d :: l)) : fall_Nth.f d l i = some ((el d l i).f0, (el d l i).f1) := by
 unfold fall_Nth.f
 rw [right_is d l (by omega), h]
 simp only [Option.bind_some, if_true]
 rw [if_pos (by omega), rnd_self (by omega) hi]
 rfl
theorem el_len (i : Nat) : (el d l i).f1.length = l.length := by simp [el]
theorem el_get (i k : Nat) (hk : k < l.length) : rd (el d l i).f1 (k : Int) = nx d l i (k + 1) := by
 rw [rd_get (by rw [el_len]; exact hk)]
 simp [el]
theorem round_is (h : (d :: l).all okn = true) (hl : l.length ≤ 30) (i : Nat) (hi : (i : Int) ≤ 1073741824) : fall_Round.f d l (el d l i).f0 (el d l i).f1 = some ((el d l i).f0, (el d l i).f1) := by
 unfold fall_Round.f
 rw [right_is d l (by omega), h]
 simp only [Option.bind_some, if_true]
 rw [if_pos ⟨by omega, by rw [el_len]; omega⟩]
 congr 2
 ·have := nx_lt h i (by omega) 0 (by omega)
  unfold rndAt
  rw [if_pos (by decide)]
  exact rnd_self this.1 this.2
 ·show List.map _ _ = (List.range l.length).map (fun k : Nat => nx d l i (k + 1))
  apply List.map_congr_left
  intro k hk
  have hk := List.mem_range.1 hk
  have := nx_lt h i (by omega) (k + 1) (by omega)
  unfold rndAt
  rw [if_neg (by omega), if_pos (by rw [el_len]; omega), el_get i k hk]
  exact rnd_self this.1 this.2
theorem el_dg (h : (d :: l).all okn = true) (i : Nat) (hi : (i : Int) ≤ 1073741824) : (el d l i).f0 :: (el d l i).f1 = dg ((d :: l).map (· + 1)) i := nx_list l d i (by omega) h
theorem radix_pos (h : (d :: l).all okn = true) : ∀ r ∈ (d :: l).map (· + 1), 1 ≤ r := fun r hr => by
 obtain ⟨x, hx, rfl⟩ := List.mem_map.1 hr
 have := okn_iff.1 (okall h x hx)
 omega
theorem el_inj (h : (d :: l).all okn = true) (hc : cntAll (d :: l) ≤ 300) (i j : Nat) (hi : (i : Int) < cntAll (d :: l)) (hj : (j : Int) < cntAll (d :: l)) (e0 : (el d l i).f0 = (el d l j).f0) (e1 : (el d l i).f1 = (el d l j).f1) : i = j := by
 have e : dg ((d :: l).map (· + 1)) i = dg ((d :: l).map (· + 1)) j := by rw [← el_dg h i (by omega), ← el_dg h j (by omega), e0, e1]
 rw [cnt_small h hc] at hi hj
 have := dg_inj _ i j (radix_pos h) (by omega) hi (by omega) hj e
 omega
theorem el_last (h : (d :: l).all okn = true) (hc : cntAll (d :: l) ≤ 300) (n : Nat) (hn : (n : Int) = cntAll (d :: l) - 1) : (el d l n).f0 = d ∧ (el d l n).f1 = l := by
 have e := el_dg h n (by omega)
 rw [hn, cnt_small h hc, dg_last _ (radix_pos h), List.map_map] at e
 have e2 : List.map ((fun x => x - 1) ∘ fun x => x + 1) (d :: l) = d :: l := by
  have : ((fun x : Int => x - 1) ∘ fun x => x + 1) = id := by funext x; simp
  rw [this, List.map_id]
 rw [e2] at e
 exact ⟨(List.cons.inj e).1, (List.cons.inj e).2⟩
def els (d : Int) (l : List Int) (i : Nat) : List S58 := (List.range i).map (el d l)
theorem els_len (i : Nat) : (els d l i).length = i := by simp [els]
theorem els_get (i k : Nat) (hk : k < i) : rd_T58 (els d l i) (k : Int) = el d l k := by
 unfold rd_T58
 rw [Int.toNat_natCast, List.getD_eq_getElem?_getD, List.getElem?_eq_getElem (by rw [els_len]; exact hk)]
 simp [els]
theorem els_snoc (i : Nat) : els d l i ++ [(⟨(el d l i).f0, (el d l i).f1⟩ : S58)] = els d l (i + 1) := by
 simp [els, List.range_succ]
theorem inner (h : (d :: l).all okn = true) (hl : l.length ≤ 30) (hc : cntAll (d :: l) ≤ 300) (i : Nat) (hi : (i : Int) < cntAll (d :: l)) (nxt : Ev (fun k => calamuslaw32_FallAll.l0 k (cntAll (d :: l)) (els d l (i + 1)) ((i : Int) + 1) d l d l) true) (e : Nat) : ∀ j : Nat, j + e = i →
  Ev (fun k => calamuslaw32_FallAll.l1 k (cntAll (d :: l)) (els d l i) i j d l d l (el d l i).f0 (el d l i).f1) true := by
 induction e with
 | zero =>
  intro j hj
  refine ev_off 1 ?_
  simp only [calamuslaw32_FallAll.l1, els_len, els_snoc]
  refine ev_neg (by omega) (ev_pos (by omega) ?_)
  rw [wrap_id (by omega) (by omega)]
  exact nxt
 | succ e ih =>
  intro j hj
  refine ev_off 1 ?_
  simp only [calamuslaw32_FallAll.l1, els_len, els_get i j (show j < i by omega)]
  refine ev_pos (by omega) (ev_pos (by omega) ?_)
  have q := ih (j + 1) (by omega)
  rw [wrap_id (by omega) (by omega)]
  by_cases h0 : (el d l j).f0 = (el d l i).f0
  ·refine ev_pos h0 (ev_bind (same_is _ _ (by rw [el_len]; omega)) ?_)
   refine ev_neg (fun h1 => ?_) q
   have := el_inj h hc j i (by omega) hi h0 (of_decide_eq_true h1)
   omega
  ·exact ev_neg h0 q
theorem outer (h : (d :: l).all okn = true) (hl : l.length ≤ 30) (hc : cntAll (d :: l) ≤ 300) (e : Nat) : ∀ i : Nat, (i : Int) + e = cntAll (d :: l) →
  Ev (fun k => calamuslaw32_FallAll.l0 k (cntAll (d :: l)) (els d l i) i d l d l) true := by
 have hp := (cnt_range h).1
 induction e with
 | zero =>
  intro i hi
  refine ev_off 1 ?_
  have hw : wrap64 (cntAll (d :: l) - 1) = ((i - 1 : Nat) : Int) := by rw [wrap_id (by omega) (by omega)]; omega
  have hz := el_last h hc (i - 1) (by omega)
  simp only [calamuslaw32_FallAll.l0, hw, els_len, els_get i (i - 1) (show i - 1 < i by omega), hz.1, hz.2]
  refine ev_neg (by omega) (ev_pos (by omega) (ev_pos (by omega) (evr ?_)))
  refine ev_bind (same_is _ _ (by omega)) (ev_pos (by simp) ?_)
  exact ev_bind lives_ (Ev.now _)
 | succ e ih =>
  intro i hi
  refine ev_off 1 ?_
  simp only [calamuslaw32_FallAll.l0]
  refine ev_pos (by omega) (ev_bnd (nth_is h hl i (by omega)) (ev_bnd (round_is h hl i (by omega)) ?_))
  simp only [el_len]
  refine evr (evr (ev_bind (same_is _ _ (by rw [el_len]; omega)) ?_))
  refine ev_off 1 ?_
  simp only [calamuslaw32_FallAll.j2]
  refine ev_neg (by simp) ?_
  exact inner h hl hc i (by omega) (ih (i + 1) (by omega)) i 0 (by omega)
end
theorem FallAll : calamuslaw32_FallAll.Pure := by
 intro d l hd hl
 refine Ev.rounds (g := fun k => calamuslaw32_FallAll.f k d l) ?_
 have hlen : l.length ≤ 17592186043904 := by have := hl.1; omega
 unfold calamuslaw32_FallAll.f fall_Count.f
 rw [right_is d l hlen]
 simp only [Option.bind_some]
 have early : ∀ c : Int, 0 ≤ c → c ≤ 1073741824 → ∀ l' : List Int, Ev (fun k => calamuslaw32_FallAll.j0 k c true d l' d l') true := fun c h0 h1 l' => by
  refine ev_off 1 ?_
  simp only [calamuslaw32_FallAll.j0]
  exact evr (ev_pos h0 (ev_pos h1 (ev_bind lives_ (Ev.now _))))
 by_cases h : (d :: l).all okn = true
 ·rw [if_pos h]
  simp only [Option.bind_some]
  have hc := cnt_range h
  refine ev_neg (by omega) ?_
  by_cases h3 : cntAll (d :: l) > 300
  ·exact ev_pos h3 (early _ (by omega) hc.2 l)
  ·refine ev_neg h3 ?_
   by_cases h4 : (l.length : Int) > 30
   ·rw [decide_eq_true h4]; exact early _ (by omega) hc.2 l
   ·rw [decide_eq_false h4]
    refine ev_off 1 ?_
    simp only [calamuslaw32_FallAll.j0]
    refine ev_neg (by simp) ?_
    exact outer h (by omega) (by omega) (cntAll (d :: l)).toNat 0 (by omega)
 ·rw [if_neg h]
  simp only [Option.bind_some]
  exact ev_pos (by decide) (early 0 (by decide) (by decide) l)
end Go.Proofs.Ytjobaaolohemgaa.Pure
