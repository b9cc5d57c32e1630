/- The law TreeBack, over the functions alone: redoing undoes undoing, and the other way round; all that is told may be, and has the same nodes. Conditions: none but the row's own. -/
import Derived.Test.YtkiokimpblimcaaTreeBackTree
namespace Go.Proofs.Ytkiokimpblimcaa.Pure
open Go.RowKit Go.Proofs.YtkiokimpblimcaaW.PrintWords Go.Proofs.YtkiokimpblimcaaW.PrintLast Go.Proofs.YtkiokimpblimcaaW.PrintMore
open Go.Proofs.Ytkiokimpblimcaa.PTreeBack Go.Proofs.Ytkiokimpblimcaa.TreeBackTree Go.Proofs.Ytkiokimpblimcaa.Open
set_option linter.unusedVariables false
theorem lv : Ev (fun k => (calamuslaw11_lives.f k).bind fun t => some t) true := ev_bind lives_ (Ev.now _)
theorem down_l {ns : List S69} {c : Int} (g : RightP ns c) {kn : Nat} (hk : kn < ns.length) (d : Nat) : ∀ (v n : Nat), v + d = kn → n ≤ v → v ∈ ch ns kn →
  Ev (fun k => calamuslaw11_TreeBack.l1 k (kn : Int) (n : Int) ns c (turnTo ns (ch ns kn)) (kn : Int) (turnTo ns (ch ns kn)) (v : Int)) true := by
 have hlen := right_len g
 have hU := turnTo_length (ch ns kn) ns
 induction d using Nat.strongRecOn with
 | ind d ih =>
  intro v n hv hn hm
  refine ev_off 1 ?_
  simp only [calamuslaw11_TreeBack.l1]
  refine ev_pos (by omega) (ev_off 1 ?_)
  simp only [calamuslaw11_TreeBack.j6]
  by_cases e : v = kn
  ·subst e
   refine ev_neg (by simp) (ev_pos rfl (ev_bind (same_refl _ _ (by omega)) (ev_pos rfl lv)))
  ·have hne : ((v : Int) != (kn : Int)) = true := by rw [bne_iff_ne]; omega
   obtain ⟨i, hi, i0, ei⟩ := ch_kid g kn hk v hm e
   have hil := ch_le ns kn i hi
   have hup := right_up g (j := i) (by omega) i0
   have gv := right_turnTo g hk (c' := (v : Int)) (by omega)
   have hf : (nd (turnTo ns (ch ns kn)) v).f1 = (i : Int) := by
    have q := turnTo_in (ch ns kn) i i0 ns hi (by omega) (fun b hb hn hb0 => ch_ups g hk b hb i hi hb0 i0 hn)
    rw [show (nd ns i).f0.toNat = v by omega] at q
    rw [q]
   have hr := redo_yes (check_true gv) gv
   have hrv : redoV (turnTo ns (ch ns kn)) (v : Int) = (turnTo ns (ch ns kn), (i : Int), (i : Int), true) := by
    unfold redoV
    rw [Int.toNat_natCast, hf, if_neg (by omega)]
   rw [hrv] at hr
   have e1 : wrap64 ((n : Int) + 1) = ((n + 1 : Nat) : Int) := by rw [wrap_id (by omega) (by omega)]; rfl
   refine ev_pos hne (ev_bind hr (ev_pos rfl ?_))
   rw [e1]
   exact ih (kn - i) (by omega) i (n + 1) (by omega) (by omega) hi
theorem up_l {ns : List S69} {c : Int} (g : RightP ns c) {kn : Nat} (hk : kn < ns.length) (v : Nat) : ∀ (n : Nat), n + v ≤ kn →
  Ev (fun k => calamuslaw11_TreeBack.l0 k (kn : Int) (n : Int) ns c (turnTo ns (ch ns kn)) (kn : Int) (turnTo ns (ch ns kn)) (v : Int)) true := by
 have hlen := right_len g
 have hU := turnTo_length (ch ns kn) ns
 have h4 : Ev (fun k => calamuslaw11_TreeBack.j4 k (kn : Int) ns c (turnTo ns (ch ns kn)) (kn : Int) (turnTo ns (ch ns kn)) ((0 : Nat) : Int)) true := by
  refine ev_off 1 ?_
  simp only [calamuslaw11_TreeBack.j4]
  exact ev_pos rfl (down_l g hk kn 0 0 (by omega) (Nat.le_refl _) (ch_zero_mem g kn hk))
 induction v using Nat.strongRecOn with
 | ind v ih =>
  intro n hn
  refine ev_off 1 ?_
  simp only [calamuslaw11_TreeBack.l0]
  have gv := right_turnTo g hk (c' := (v : Int)) (by omega)
  have hr := undo_yes (check_true gv) gv
  refine ev_pos (by omega) (ev_bind hr ?_)
  by_cases e : v = 0
  ·subst e
   have hv : undoV (turnTo ns (ch ns kn)) ((0 : Nat) : Int) = (turnTo ns (ch ns kn), 0, 0, false) := rfl
   rw [hv]
   exact ev_neg (by simp) h4
  ·have hv : undoV (turnTo ns (ch ns kn)) (v : Int) = (turnTo ns (ch ns kn), (nd ns v).f0, (v : Int), true) := by
    unfold undoV; rw [if_neg (by omega), Int.toNat_natCast, turnTo_up]
   have hup := right_up g (j := v) (by omega) (by omega)
   have e1 : wrap64 ((n : Int) + 1) = ((n + 1 : Nat) : Int) := by rw [wrap_id (by omega) (by omega)]; rfl
   rw [hv]
   refine ev_pos rfl ?_
   rw [e1]
   have q := ih (nd ns v).f0.toNat (by omega) (n + 1) (by omega)
   rw [show (((nd ns v).f0.toNat : Nat) : Int) = (nd ns v).f0 by omega] at q
   exact q
theorem j1_is {ns : List S69} {c a x : Int} (g : RightP ns c) (ga : RightP ns a) : Ev (fun k => calamuslaw11_TreeBack.j1 k x ns c ns a) true := by
 have hlen := right_len g
 have hc := right_cur g
 refine ev_off 1 ?_
 simp only [calamuslaw11_TreeBack.j1]
 by_cases hx : 0 ≤ x ∧ x < (ns.length : Int)
 ·obtain ⟨kn, rfl⟩ : ∃ kn : Nat, x = (kn : Int) := ⟨x.toNat, by omega⟩
  obtain ⟨cn, rfl⟩ : ∃ cn : Nat, c = (cn : Int) := ⟨c.toNat, by omega⟩
  have hk : kn < ns.length := by omega
  have ht := to_yes (check_true g) g kn hk
  have gU := right_turnTo g hk (c' := (kn : Int)) (by omega)
  have hU := turnTo_length (ch ns kn) ns
  unfold toV at ht
  have j2 : Ev (fun k => calamuslaw11_TreeBack.j2 k (kn : Int) false ns (cn : Int) (turnTo ns (ch ns kn)) (kn : Int)) true := by
   refine ev_off 1 ?_
   simp only [calamuslaw11_TreeBack.j2]
   exact ev_neg (by simp) (up_l g hk kn 0 (by omega))
  refine ev_bind ht (ev_pos rfl ?_)
  by_cases h0 : 0 < kn
  ·have hcz := choose_yes (check_true gU) gU (x := (kn : Int)) ⟨by omega, by omega⟩
   rw [Int.toNat_natCast] at hcz
   have gC := right_setNext gU (c' := (kn : Int)) h0 (by omega) (by omega)
   refine ev_bind hcz (ev_bind (right_true ga) (ev_pos rfl (ev_bind (right_true gU) (ev_pos rfl (ev_pos rfl (ev_pos (by show ((turnTo ns (ch ns kn)).length : Int) = _; rw [hU]) (ev_neg ?_ (ev_pos rfl (ev_bind (right_true gC) j2)))))))))
   rw [decide_eq_true (show (kn : Int) > 0 by omega)]
   show ¬ (((0 : Int) == 0) != true) = true
   decide
  ·have hcz := choose_none (check_true gU) (x := (kn : Int)) (by omega)
   refine ev_bind hcz (ev_bind (right_true ga) (ev_pos rfl (ev_bind (right_true gU) (ev_pos rfl (ev_pos rfl (ev_pos (by show ((turnTo ns (ch ns kn)).length : Int) = _; rw [hU]) (ev_neg ?_ (ev_neg (by decide) j2))))))))
   rw [decide_eq_false (show ¬ (kn : Int) > 0 by omega)]
   show ¬ (((7 : Int) == 0) != false) = true
   decide
 ·have ht := to_none (check_true g) hx
  refine ev_bind ht (ev_neg (by decide) ?_)
  by_cases h0 : x < 0
  ·exact ev_pos h0 lv
  ·exact ev_neg h0 (ev_pos (by omega) lv)
theorem j0_is {ns : List S69} {c x : Int} (g : RightP ns c) : Ev (fun k => calamuslaw11_TreeBack.j0 k x false ns c) true := by
 have hlen := right_len g
 have hc := right_cur g
 refine ev_off 1 ?_
 simp only [calamuslaw11_TreeBack.j0]
 refine ev_neg (by simp) ?_
 have hr := redo_yes (check_true g) g
 by_cases e : (nd ns c.toNat).f1 = -1
 ·have hv : redoV ns c = (ns, c, 0, false) := by unfold redoV; rw [if_pos e]
  rw [hv] at hr
  exact ev_bind hr (ev_neg (by simp) (j1_is g g))
 ·have hv : redoV ns c = (ns, (nd ns c.toNat).f1, (nd ns c.toNat).f1, true) := by unfold redoV; rw [if_neg e]
  obtain ⟨a1, a2, a3, _⟩ := right_next g (j := c.toNat) (by omega) e
  have ga := right_move g (c' := (nd ns c.toNat).f1) ⟨a1, a2⟩
  have hu := undo_yes (check_true ga) ga
  have hn0 : (nd ns c.toNat).f1 ≠ 0 := by
   intro q
   rw [q] at a3
   have := g.2.1.1
   rw [show (0 : Int).toNat = 0 from rfl, this] at a3
   omega
  have hw : undoV ns (nd ns c.toNat).f1 = (ns, c, (nd ns c.toNat).f1, true) := by unfold undoV; rw [if_neg hn0, a3]; congr 2; omega
  rw [hv] at hr
  rw [hw] at hu
  exact ev_bind hr (ev_pos rfl (ev_bind hu (ev_pos rfl (ev_pos rfl (ev_bind (same_refl ns c (by omega)) (ev_pos rfl (j1_is g ga)))))))
theorem TreeBack : calamuslaw11_TreeBack.Pure := by
 intro ns c x _ _ _
 refine Ev.rounds (g := fun k => calamuslaw11_TreeBack.f k ns c x) ?_
 unfold calamuslaw11_TreeBack.f
 have big : Ev (fun k => calamuslaw11_TreeBack.j0 k x true ns c) true := by
  refine ev_off 1 ?_
  simp only [calamuslaw11_TreeBack.j0]
  exact ev_pos trivial lv
 by_cases h1 : (ns.length : Int) > 150
 ·exact ev_pos h1 big
 ·refine ev_neg h1 ?_
  obtain ⟨b, hb, hi⟩ := check_is ns c
  refine ev_bind (ev_bind (open_is hb) (Ev.now _)) ?_
  cases b with
  | false => exact big
  | true => exact j0_is (hi.1 rfl)
end Go.Proofs.Ytkiokimpblimcaa.Pure
