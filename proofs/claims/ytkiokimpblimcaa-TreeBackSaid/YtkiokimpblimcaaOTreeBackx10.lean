/- Of the law calamus/calamuslaw11.TreeBack: each function as a plain Lean function, with a proof that the call comes to it; the row. By wip/tpl/own_print.py. Conditions: none but the row's own. -/
import Derived.Test.YtkiokimpblimcaaOTreeBackx0
import Derived.Test.YtkiokimpblimcaaOTreeBackx5
import Derived.Test.YtkiokimpblimcaaOTreeBackx6
import Derived.Test.YtkiokimpblimcaaOTreeBackx9
namespace Go.Proofs.Ytkiokimpblimcaa.PTreeBack
open Go.RowKit Go.Proofs.YtkiokimpblimcaaW.PrintWords Go.Proofs.YtkiokimpblimcaaW.PrintLast Go.Proofs.YtkiokimpblimcaaW.PrintMore
attribute [local go_sem] max2_int min2_int max_two min_two max_three min_three max_four min_four   -- for this text's walks alone
set_option linter.unusedVariables false
set_option linter.unusedSimpArgs false

/-! ### calamuslaw11_TreeBack: function 11 -/
mutual
def calamuslaw11_TreeBack.j0 : Nat → Int → Bool → List (S69) → Int → Option (Bool)
 | 0, _, _, _, _ => none
 | k + 1, x1, x32, x321000, x321001 => if x32 = true then ((calamuslaw11_lives.f k).bind fun t322 => (some t322)) else ((tree_Redo.f k x321000 x321001).bind fun bt323 => (if bt323.2.2.2 = true then ((tree_Undo.f k bt323.1 bt323.2.1).bind fun bt330 => (if bt330.2.2.2 = true then (if bt330.2.2.1 = bt323.2.2.1 then ((tree_Same.f k bt330.1 bt330.2.1 x321000 x321001).bind fun t337 => (if t337 = true then (calamuslaw11_TreeBack.j1 k x1 x321000 x321001 bt323.1 bt323.2.1) else (some false))) else (some false)) else (some false))) else (calamuslaw11_TreeBack.j1 k x1 x321000 x321001 bt323.1 bt323.2.1)))
def calamuslaw11_TreeBack.j1 : Nat → Int → List (S69) → Int → List (S69) → Int → Option (Bool)
 | 0, _, _, _, _, _ => none
 | k + 1, x1, x321000, x321001, x330000, x330001 => (tree_To.f k x321000 x321001 x1).bind fun bt338 => (if bt338.2.2 = 0 then ((tree_Choose.f k bt338.1 bt338.2.1 x1).bind fun bt346 => ((tree_Right.f k x330000 x330001).bind fun t352 => (if t352 = true then ((tree_Right.f k bt338.1 bt338.2.1).bind fun t353 => (if t353 = true then (if bt338.2.1 = x1 then (if (bt338.1.length : Int) = (x321000.length : Int) then (if ((bt346.2.2 == 0) != (decide (x1 > 0))) = true then (calamuslaw11_TreeBack.j2 k x1 true x321000 x321001 bt338.1 bt338.2.1) else (if bt346.2.2 = 0 then ((tree_Right.f k bt346.1 bt346.2.1).bind fun t354 => (calamuslaw11_TreeBack.j2 k x1 (!t354) x321000 x321001 bt338.1 bt338.2.1)) else (calamuslaw11_TreeBack.j2 k x1 false x321000 x321001 bt338.1 bt338.2.1))) else (calamuslaw11_TreeBack.j2 k x1 true x321000 x321001 bt338.1 bt338.2.1)) else (calamuslaw11_TreeBack.j2 k x1 true x321000 x321001 bt338.1 bt338.2.1)) else (calamuslaw11_TreeBack.j2 k x1 true x321000 x321001 bt338.1 bt338.2.1))) else (calamuslaw11_TreeBack.j2 k x1 true x321000 x321001 bt338.1 bt338.2.1)))) else (if x1 < 0 then ((calamuslaw11_lives.f k).bind fun t344 => (some t344)) else (if x1 ≥ (x321000.length : Int) then ((calamuslaw11_lives.f k).bind fun t345 => (some t345)) else (some false))))
def calamuslaw11_TreeBack.j2 : Nat → Int → Bool → List (S69) → Int → List (S69) → Int → Option (Bool)
 | 0, _, _, _, _, _, _ => none
 | k + 1, x1, x124, x321000, x321001, x344000, x344001 => if x124 = true then (some false) else (calamuslaw11_TreeBack.l0 k x1 0 x321000 x321001 x344000 x344001 x344000 x344001)
def calamuslaw11_TreeBack.j4 : Nat → Int → List (S69) → Int → List (S69) → Int → List (S69) → Int → Option (Bool)
 | 0, _, _, _, _, _, _, _ => none
 | k + 1, x1, x321000, x321001, x344000, x344001, x356000, x356001 => if x356001 = 0 then (calamuslaw11_TreeBack.l1 k x1 0 x321000 x321001 x344000 x344001 x356000 x356001) else (some false)
def calamuslaw11_TreeBack.l1 : Nat → Int → Int → List (S69) → Int → List (S69) → Int → List (S69) → Int → Option (Bool)
 | 0, _, _, _, _, _, _, _, _ => none
 | k + 1, x1, x20, x321000, x321001, x344000, x344001, x356000, x356001 => if x20 < (x321000.length : Int) then (calamuslaw11_TreeBack.j6 k x1 x20 (x356001 != x1) x321000 x321001 x344000 x344001 x356000 x356001) else (calamuslaw11_TreeBack.j6 k x1 x20 false x321000 x321001 x344000 x344001 x356000 x356001)
def calamuslaw11_TreeBack.j6 : Nat → Int → Int → Bool → List (S69) → Int → List (S69) → Int → List (S69) → Int → Option (Bool)
 | 0, _, _, _, _, _, _, _, _, _ => none
 | k + 1, x1, x20, x155, x321000, x321001, x344000, x344001, x356000, x356001 => if x155 = true then ((tree_Redo.f k x356000 x356001).bind fun bt363 => (if bt363.2.2.2 = true then (calamuslaw11_TreeBack.l1 k x1 (wrap64 (x20 + 1)) x321000 x321001 x344000 x344001 bt363.1 bt363.2.1) else (some false))) else (if x356001 = x1 then ((tree_Same.f k x356000 x356001 x344000 x344001).bind fun t370 => (if t370 = true then ((calamuslaw11_lives.f k).bind fun t371 => (some t371)) else (some false))) else (some false))
def calamuslaw11_TreeBack.l0 : Nat → Int → Int → List (S69) → Int → List (S69) → Int → List (S69) → Int → Option (Bool)
 | 0, _, _, _, _, _, _, _, _ => none
 | k + 1, x1, x16, x321000, x321001, x344000, x344001, x356000, x356001 => if x16 < (x321000.length : Int) then ((tree_Undo.f k x356000 x356001).bind fun bt356 => (if bt356.2.2.2 = true then (calamuslaw11_TreeBack.l0 k x1 (wrap64 (x16 + 1)) x321000 x321001 x344000 x344001 bt356.1 bt356.2.1) else (calamuslaw11_TreeBack.j4 k x1 x321000 x321001 x344000 x344001 x356000 x356001))) else (calamuslaw11_TreeBack.j4 k x1 x321000 x321001 x344000 x344001 x356000 x356001)
end
def calamuslaw11_TreeBack.f (k : Nat) (l0_0 : List (S69)) (a0_1 : Int) (a1 : Int) : Option (Bool) := if (l0_0.length : Int) > 150 then (calamuslaw11_TreeBack.j0 k a1 true l0_0 a0_1) else ((tree_Right.f k l0_0 a0_1).bind fun t321 => (calamuslaw11_TreeBack.j0 k a1 (!t321) l0_0 a0_1))
theorem calamuslaw11_TreeBack.mono_l : ∀ k, (∀ y0 y1 y2 y3, LeO (calamuslaw11_TreeBack.j0 k y0 y1 y2 y3) (calamuslaw11_TreeBack.j0 (k + 1) y0 y1 y2 y3)) ∧ (∀ y0 y1 y2 y3 y4, LeO (calamuslaw11_TreeBack.j1 k y0 y1 y2 y3 y4) (calamuslaw11_TreeBack.j1 (k + 1) y0 y1 y2 y3 y4)) ∧ (∀ y0 y1 y2 y3 y4 y5, LeO (calamuslaw11_TreeBack.j2 k y0 y1 y2 y3 y4 y5) (calamuslaw11_TreeBack.j2 (k + 1) y0 y1 y2 y3 y4 y5)) ∧ (∀ y0 y1 y2 y3 y4 y5 y6, LeO (calamuslaw11_TreeBack.j4 k y0 y1 y2 y3 y4 y5 y6) (calamuslaw11_TreeBack.j4 (k + 1) y0 y1 y2 y3 y4 y5 y6)) ∧ (∀ y0 y1 y2 y3 y4 y5 y6 y7, LeO (calamuslaw11_TreeBack.l1 k y0 y1 y2 y3 y4 y5 y6 y7) (calamuslaw11_TreeBack.l1 (k + 1) y0 y1 y2 y3 y4 y5 y6 y7)) ∧ (∀ y0 y1 y2 y3 y4 y5 y6 y7 y8, LeO (calamuslaw11_TreeBack.j6 k y0 y1 y2 y3 y4 y5 y6 y7 y8) (calamuslaw11_TreeBack.j6 (k + 1) y0 y1 y2 y3 y4 y5 y6 y7 y8)) ∧ (∀ y0 y1 y2 y3 y4 y5 y6 y7, LeO (calamuslaw11_TreeBack.l0 k y0 y1 y2 y3 y4 y5 y6 y7) (calamuslaw11_TreeBack.l0 (k + 1) y0 y1 y2 y3 y4 y5 y6 y7))
 | 0 => ⟨fun _ _ _ _ r h => by simp [calamuslaw11_TreeBack.j0] at h, fun _ _ _ _ _ r h => by simp [calamuslaw11_TreeBack.j1] at h, fun _ _ _ _ _ _ r h => by simp [calamuslaw11_TreeBack.j2] at h, fun _ _ _ _ _ _ _ r h => by simp [calamuslaw11_TreeBack.j4] at h, fun _ _ _ _ _ _ _ _ r h => by simp [calamuslaw11_TreeBack.l1] at h, fun _ _ _ _ _ _ _ _ _ r h => by simp [calamuslaw11_TreeBack.j6] at h, fun _ _ _ _ _ _ _ _ r h => by simp [calamuslaw11_TreeBack.l0] at h⟩
 | k + 1 => by
  obtain ⟨ih0, ih1, ih2, ih3, ih4, ih5, ih6⟩ := calamuslaw11_TreeBack.mono_l k
  refine ⟨?_, ?_, ?_, ?_, ?_, ?_, ?_⟩
  ·intro y0 y1 y2 y3
   unfold calamuslaw11_TreeBack.j0
   repeat' first
   | (with_reducible exact ih0 _ _ _ _)
   | (with_reducible exact ih1 _ _ _ _ _)
   | (with_reducible exact ih2 _ _ _ _ _ _)
   | (with_reducible exact ih3 _ _ _ _ _ _ _)
   | (with_reducible exact ih4 _ _ _ _ _ _ _ _)
   | (with_reducible exact ih5 _ _ _ _ _ _ _ _ _)
   | (with_reducible exact ih6 _ _ _ _ _ _ _ _)
   | (with_reducible exact calamuslaw11_lives.mono _)
   | (with_reducible exact tree_Choose.mono _ _ _ _)
   | (with_reducible exact tree_Redo.mono _ _ _)
   | (with_reducible exact tree_Right.mono _ _ _)
   | (with_reducible exact tree_Same.mono _ _ _ _ _)
   | (with_reducible exact tree_To.mono _ _ _ _)
   | (with_reducible exact tree_Undo.mono _ _ _)
   | (with_reducible exact LeO.refl _)
   | (with_reducible exact LeO.none _)
   | (with_reducible refine LeO.ite ?_ ?_)
   | (with_reducible refine LeO.bind ?_ (fun _ => ?_))
   | exact ih0 _ _ _ _
   | exact ih1 _ _ _ _ _
   | exact ih2 _ _ _ _ _ _
   | exact ih3 _ _ _ _ _ _ _
   | exact ih4 _ _ _ _ _ _ _ _
   | exact ih5 _ _ _ _ _ _ _ _ _
   | exact ih6 _ _ _ _ _ _ _ _
   | exact calamuslaw11_lives.mono _
   | exact tree_Choose.mono _ _ _ _
   | exact tree_Redo.mono _ _ _
   | exact tree_Right.mono _ _ _
   | exact tree_Same.mono _ _ _ _ _
   | exact tree_To.mono _ _ _ _
   | exact tree_Undo.mono _ _ _
   | exact LeO.none _
   | refine LeO.ite ?_ ?_
   | refine LeO.bind ?_ (fun _ => ?_)
  ·intro y0 y1 y2 y3 y4
   unfold calamuslaw11_TreeBack.j1
   repeat' first
   | (with_reducible exact ih0 _ _ _ _)
   | (with_reducible exact ih1 _ _ _ _ _)
   | (with_reducible exact ih2 _ _ _ _ _ _)
   | (with_reducible exact ih3 _ _ _ _ _ _ _)
   | (with_reducible exact ih4 _ _ _ _ _ _ _ _)
   | (with_reducible exact ih5 _ _ _ _ _ _ _ _ _)
   | (with_reducible exact ih6 _ _ _ _ _ _ _ _)
   | (with_reducible exact calamuslaw11_lives.mono _)
   | (with_reducible exact tree_Choose.mono _ _ _ _)
   | (with_reducible exact tree_Redo.mono _ _ _)
   | (with_reducible exact tree_Right.mono _ _ _)
   | (with_reducible exact tree_Same.mono _ _ _ _ _)
   | (with_reducible exact tree_To.mono _ _ _ _)
   | (with_reducible exact tree_Undo.mono _ _ _)
   | (with_reducible exact LeO.refl _)
   | (with_reducible exact LeO.none _)
   | (with_reducible refine LeO.ite ?_ ?_)
   | (with_reducible refine LeO.bind ?_ (fun _ => ?_))
   | exact ih0 _ _ _ _
   | exact ih1 _ _ _ _ _
   | exact ih2 _ _ _ _ _ _
   | exact ih3 _ _ _ _ _ _ _
   | exact ih4 _ _ _ _ _ _ _ _
   | exact ih5 _ _ _ _ _ _ _ _ _
   | exact ih6 _ _ _ _ _ _ _ _
   | exact calamuslaw11_lives.mono _
   | exact tree_Choose.mono _ _ _ _
   | exact tree_Redo.mono _ _ _
   | exact tree_Right.mono _ _ _
   | exact tree_Same.mono _ _ _ _ _
   | exact tree_To.mono _ _ _ _
   | exact tree_Undo.mono _ _ _
   | exact LeO.none _
   | refine LeO.ite ?_ ?_
   | refine LeO.bind ?_ (fun _ => ?_)
  ·intro y0 y1 y2 y3 y4 y5
   unfold calamuslaw11_TreeBack.j2
   repeat' first
   | (with_reducible exact ih0 _ _ _ _)
   | (with_reducible exact ih1 _ _ _ _ _)
   | (with_reducible exact ih2 _ _ _ _ _ _)
   | (with_reducible exact ih3 _ _ _ _ _ _ _)
   | (with_reducible exact ih4 _ _ _ _ _ _ _ _)
   | (with_reducible exact ih5 _ _ _ _ _ _ _ _ _)
   | (with_reducible exact ih6 _ _ _ _ _ _ _ _)
   | (with_reducible exact calamuslaw11_lives.mono _)
   | (with_reducible exact tree_Choose.mono _ _ _ _)
   | (with_reducible exact tree_Redo.mono _ _ _)
   | (with_reducible exact tree_Right.mono _ _ _)
   | (with_reducible exact tree_Same.mono _ _ _ _ _)
   | (with_reducible exact tree_To.mono _ _ _ _)
   | (with_reducible exact tree_Undo.mono _ _ _)
   | (with_reducible exact LeO.refl _)
   | (with_reducible exact LeO.none _)
   | (with_reducible refine LeO.ite ?_ ?_)
   | (with_reducible refine LeO.bind ?_ (fun _ => ?_))
   | exact ih0 _ _ _ _
   | exact ih1 _ _ _ _ _
   | exact ih2 _ _ _ _ _ _
   | exact ih3 _ _ _ _ _ _ _
   | exact ih4 _ _ _ _ _ _ _ _
   | exact ih5 _ _ _ _ _ _ _ _ _
   | exact ih6 _ _ _ _ _ _ _ _
   | exact calamuslaw11_lives.mono _
   | exact tree_Choose.mono _ _ _ _
   | exact tree_Redo.mono _ _ _
   | exact tree_Right.mono _ _ _
   | exact tree_Same.mono _ _ _ _ _
   | exact tree_To.mono _ _ _ _
   | exact tree_Undo.mono _ _ _
   | exact LeO.none _
   | refine LeO.ite ?_ ?_
   | refine LeO.bind ?_ (fun _ => ?_)
  ·intro y0 y1 y2 y3 y4 y5 y6
   unfold calamuslaw11_TreeBack.j4
   repeat' first
   | (with_reducible exact ih0 _ _ _ _)
   | (with_reducible exact ih1 _ _ _ _ _)
   | (with_reducible exact ih2 _ _ _ _ _ _)
   | (with_reducible exact ih3 _ _ _ _ _ _ _)
   | (with_reducible exact ih4 _ _ _ _ _ _ _ _)
   | (with_reducible exact ih5 _ _ _ _ _ _ _ _ _)
   | (with_reducible exact ih6 _ _ _ _ _ _ _ _)
   | (with_reducible exact calamuslaw11_lives.mono _)
   | (with_reducible exact tree_Choose.mono _ _ _ _)
   | (with_reducible exact tree_Redo.mono _ _ _)
   | (with_reducible exact tree_Right.mono _ _ _)
   | (with_reducible exact tree_Same.mono _ _ _ _ _)
   | (with_reducible exact tree_To.mono _ _ _ _)
   | (with_reducible exact tree_Undo.mono _ _ _)
   | (with_reducible exact LeO.refl _)
   | (with_reducible exact LeO.none _)
   | (with_reducible refine LeO.ite ?_ ?_)
   | (with_reducible refine LeO.bind ?_ (fun _ => ?_))
   | exact ih0 _ _ _ _
   | exact ih1 _ _ _ _ _
   | exact ih2 _ _ _ _ _ _
   | exact ih3 _ _ _ _ _ _ _
   | exact ih4 _ _ _ _ _ _ _ _
   | exact ih5 _ _ _ _ _ _ _ _ _
   | exact ih6 _ _ _ _ _ _ _ _
   | exact calamuslaw11_lives.mono _
   | exact tree_Choose.mono _ _ _ _
   | exact tree_Redo.mono _ _ _
   | exact tree_Right.mono _ _ _
   | exact tree_Same.mono _ _ _ _ _
   | exact tree_To.mono _ _ _ _
   | exact tree_Undo.mono _ _ _
   | exact LeO.none _
   | refine LeO.ite ?_ ?_
   | refine LeO.bind ?_ (fun _ => ?_)
  ·intro y0 y1 y2 y3 y4 y5 y6 y7
   unfold calamuslaw11_TreeBack.l1
   repeat' first
   | (with_reducible exact ih0 _ _ _ _)
   | (with_reducible exact ih1 _ _ _ _ _)
   | (with_reducible exact ih2 _ _ _ _ _ _)
   | (with_reducible exact ih3 _ _ _ _ _ _ _)
   | (with_reducible exact ih4 _ _ _ _ _ _ _ _)
   | (with_reducible exact ih5 _ _ _ _ _ _ _ _ _)
   | (with_reducible exact ih6 _ _ _ _ _ _ _ _)
   | (with_reducible exact calamuslaw11_lives.mono _)
   | (with_reducible exact tree_Choose.mono _ _ _ _)
   | (with_reducible exact tree_Redo.mono _ _ _)
   | (with_reducible exact tree_Right.mono _ _ _)
   | (with_reducible exact tree_Same.mono _ _ _ _ _)
   | (with_reducible exact tree_To.mono _ _ _ _)
   | (with_reducible exact tree_Undo.mono _ _ _)
   | (with_reducible exact LeO.refl _)
   | (with_reducible exact LeO.none _)
   | (with_reducible refine LeO.ite ?_ ?_)
   | (with_reducible refine LeO.bind ?_ (fun _ => ?_))
   | exact ih0 _ _ _ _
   | exact ih1 _ _ _ _ _
   | exact ih2 _ _ _ _ _ _
   | exact ih3 _ _ _ _ _ _ _
   | exact ih4 _ _ _ _ _ _ _ _
   | exact ih5 _ _ _ _ _ _ _ _ _
   | exact ih6 _ _ _ _ _ _ _ _
   | exact calamuslaw11_lives.mono _
   | exact tree_Choose.mono _ _ _ _
   | exact tree_Redo.mono _ _ _
   | exact tree_Right.mono _ _ _
   | exact tree_Same.mono _ _ _ _ _
   | exact tree_To.mono _ _ _ _
   | exact tree_Undo.mono _ _ _
   | exact LeO.none _
   | refine LeO.ite ?_ ?_
   | refine LeO.bind ?_ (fun _ => ?_)
  ·intro y0 y1 y2 y3 y4 y5 y6 y7 y8
   unfold calamuslaw11_TreeBack.j6
   repeat' first
   | (with_reducible exact ih0 _ _ _ _)
   | (with_reducible exact ih1 _ _ _ _ _)
   | (with_reducible exact ih2 _ _ _ _ _ _)
   | (with_reducible exact ih3 _ _ _ _ _ _ _)
   | (with_reducible exact ih4 _ _ _ _ _ _ _ _)
   | (with_reducible exact ih5 _ _ _ _ _ _ _ _ _)
   | (with_reducible exact ih6 _ _ _ _ _ _ _ _)
   | (with_reducible exact calamuslaw11_lives.mono _)
   | (with_reducible exact tree_Choose.mono _ _ _ _)
   | (with_reducible exact tree_Redo.mono _ _ _)
   | (with_reducible exact tree_Right.mono _ _ _)
   | (with_reducible exact tree_Same.mono _ _ _ _ _)
   | (with_reducible exact tree_To.mono _ _ _ _)
   | (with_reducible exact tree_Undo.mono _ _ _)
   | (with_reducible exact LeO.refl _)
   | (with_reducible exact LeO.none _)
   | (with_reducible refine LeO.ite ?_ ?_)
   | (with_reducible refine LeO.bind ?_ (fun _ => ?_))
   | exact ih0 _ _ _ _
   | exact ih1 _ _ _ _ _
   | exact ih2 _ _ _ _ _ _
   | exact ih3 _ _ _ _ _ _ _
   | exact ih4 _ _ _ _ _ _ _ _
   | exact ih5 _ _ _ _ _ _ _ _ _
   | exact ih6 _ _ _ _ _ _ _ _
   | exact calamuslaw11_lives.mono _
   | exact tree_Choose.mono _ _ _ _
   | exact tree_Redo.mono _ _ _
   | exact tree_Right.mono _ _ _
   | exact tree_Same.mono _ _ _ _ _
   | exact tree_To.mono _ _ _ _
   | exact tree_Undo.mono _ _ _
   | exact LeO.none _
   | refine LeO.ite ?_ ?_
   | refine LeO.bind ?_ (fun _ => ?_)
  ·intro y0 y1 y2 y3 y4 y5 y6 y7
   unfold calamuslaw11_TreeBack.l0
   repeat' first
   | (with_reducible exact ih0 _ _ _ _)
   | (with_reducible exact ih1 _ _ _ _ _)
   | (with_reducible exact ih2 _ _ _ _ _ _)
   | (with_reducible exact ih3 _ _ _ _ _ _ _)
   | (with_reducible exact ih4 _ _ _ _ _ _ _ _)
   | (with_reducible exact ih5 _ _ _ _ _ _ _ _ _)
   | (with_reducible exact ih6 _ _ _ _ _ _ _ _)
   | (with_reducible exact calamuslaw11_lives.mono _)
   | (with_reducible exact tree_Choose.mono _ _ _ _)
   | (with_reducible exact tree_Redo.mono _ _ _)
   | (with_reducible exact tree_Right.mono _ _ _)
   | (with_reducible exact tree_Same.mono _ _ _ _ _)
   | (with_reducible exact tree_To.mono _ _ _ _)
   | (with_reducible exact tree_Undo.mono _ _ _)
   | (with_reducible exact LeO.refl _)
   | (with_reducible exact LeO.none _)
   | (with_reducible refine LeO.ite ?_ ?_)
   | (with_reducible refine LeO.bind ?_ (fun _ => ?_))
   | exact ih0 _ _ _ _
   | exact ih1 _ _ _ _ _
   | exact ih2 _ _ _ _ _ _
   | exact ih3 _ _ _ _ _ _ _
   | exact ih4 _ _ _ _ _ _ _ _
   | exact ih5 _ _ _ _ _ _ _ _ _
   | exact ih6 _ _ _ _ _ _ _ _
   | exact calamuslaw11_lives.mono _
   | exact tree_Choose.mono _ _ _ _
   | exact tree_Redo.mono _ _ _
   | exact tree_Right.mono _ _ _
   | exact tree_Same.mono _ _ _ _ _
   | exact tree_To.mono _ _ _ _
   | exact tree_Undo.mono _ _ _
   | exact LeO.none _
   | refine LeO.ite ?_ ?_
   | refine LeO.bind ?_ (fun _ => ?_)
theorem calamuslaw11_TreeBack.mono : ∀ a0 a1 a2 k, LeO (calamuslaw11_TreeBack.f k a0 a1 a2) (calamuslaw11_TreeBack.f (k + 1) a0 a1 a2) := by
 intro a0 a1 a2 k
 obtain ⟨ih0, ih1, ih2, ih3, ih4, ih5, ih6⟩ := calamuslaw11_TreeBack.mono_l k
 unfold calamuslaw11_TreeBack.f
 repeat' first
   | (with_reducible exact ih0 _ _ _ _)
   | (with_reducible exact ih1 _ _ _ _ _)
   | (with_reducible exact ih2 _ _ _ _ _ _)
   | (with_reducible exact ih3 _ _ _ _ _ _ _)
   | (with_reducible exact ih4 _ _ _ _ _ _ _ _)
   | (with_reducible exact ih5 _ _ _ _ _ _ _ _ _)
   | (with_reducible exact ih6 _ _ _ _ _ _ _ _)
   | (with_reducible exact calamuslaw11_lives.mono _)
   | (with_reducible exact tree_Choose.mono _ _ _ _)
   | (with_reducible exact tree_Redo.mono _ _ _)
   | (with_reducible exact tree_Right.mono _ _ _)
   | (with_reducible exact tree_Same.mono _ _ _ _ _)
   | (with_reducible exact tree_To.mono _ _ _ _)
   | (with_reducible exact tree_Undo.mono _ _ _)
   | (with_reducible exact LeO.refl _)
   | (with_reducible exact LeO.none _)
   | (with_reducible refine LeO.ite ?_ ?_)
   | (with_reducible refine LeO.bind ?_ (fun _ => ?_))
   | exact ih0 _ _ _ _
   | exact ih1 _ _ _ _ _
   | exact ih2 _ _ _ _ _ _
   | exact ih3 _ _ _ _ _ _ _
   | exact ih4 _ _ _ _ _ _ _ _
   | exact ih5 _ _ _ _ _ _ _ _ _
   | exact ih6 _ _ _ _ _ _ _ _
   | exact calamuslaw11_lives.mono _
   | exact tree_Choose.mono _ _ _ _
   | exact tree_Redo.mono _ _ _
   | exact tree_Right.mono _ _ _
   | exact tree_Same.mono _ _ _ _ _
   | exact tree_To.mono _ _ _ _
   | exact tree_Undo.mono _ _ _
   | exact LeO.none _
   | refine LeO.ite ?_ ?_
   | refine LeO.bind ?_ (fun _ => ?_)
set_option maxHeartbeats 8000000 in
set_option maxRecDepth 100000 in
theorem calamuslaw11_TreeBack.calls (k : Nat) (A0_0 : Option Addr) (c0_0 : Nat) (l0_0 : List (S69)) (a0_1 : Int) (a1 : Int) (r : Bool) (w : World) (hr0_0 : Kd.C k69 w A0_0 l0_0.length l0_0) (hc0_0 : l0_0.length ≤ c0_0) (h : calamuslaw11_TreeBack.f k l0_0 a0_1 a1 = some r) (hr_ : r = true := by rfl) :
  Calls Try.prog 11 #[.agg #[.slice A0_0 l0_0.length c0_0, .int .i64 a0_1], .int .i64 a1] w fun e w' => e = .returned (.bool r) ∧ Below w.heap.size w w' := by
 have hu46 := Try.underlying46
 have HR0_0 := Aside0.mk hr0_0
 have HC0_0 := Aside0.mk hc0_0
 clear hr0_0 hc0_0
 have HB := Aside0.mk (Below.refl w.heap.size w)
 have H : (if (l0_0.length : Int) > 150 then (calamuslaw11_TreeBack.j0 k a1 true l0_0 a0_1) else ((tree_Right.f k l0_0 a0_1).bind fun t321 => (calamuslaw11_TreeBack.j0 k a1 (!t321) l0_0 a0_1))) = some r := h
 clear h
 have HC3 := Aside0.mk H
 clear H
 go_enter Try.func11, Try.ntmps11
 go_upto_region 1 with (first | ((with_reducible refine gate_dst (N := 2) rfl ?_); (try (refine gate_guard (by rfl) ?_; dsimp only)); refine be_ (N := 2) (cs := #[.slice A0_0 l0_0.length c0_0, .int .i64 a0_1]) (t := 46) (h := ?_); intro gb320 hg w4 hbox hb; have BK320 := Aside0.mk (hbox); have GW320 := gw_ HB hg; have GE320 := gw_ HB hg; replace HB := bs_ HB hb; clear hb hbox hg))
 (try simp only [Act.put, List.setIfInBounds_toArray, List.set_cons_zero, List.set_cons_succ])
 go_cut [32] (fun v32 wc => ∃ (kq : Nat) (x32_2 : Bool), v32 = .bool x32_2 ∧ Aside0 (calamuslaw11_TreeBack.j0 kq a1 x32_2 l0_0 a0_1 = some r) ∧ Aside0 (kq ≤ k) ∧ Aside0 (wc.heap[gb320]? = some (.cells #[(.slice A0_0 l0_0.length c0_0), .int .i64 a0_1] 46 (0, 0))) ∧ Aside0 (Below w.heap.size w wc))
 case first =>
  have H := HC3.out
  clear HC3
  by_cases c5 : (l0_0.length : Int) > 150
  ·rw [if_pos c5] at H
   have c5b0 : decide (150 < (l0_0.length : Int)) = true := decide_eq_true c5
   have c5b1 : decide (150 < l0_0.length) = true := decide_eq_true (by omega)
   clear c5
   (first | rw [c5b0] | (simp only [i64_w, i32_w]; rw [c5b0]) | skip)
   have H' := Aside0.mk H
   clear H
   obtain ⟨hcz6_0, hcz6_1, hfz6_0, hfz6_1⟩ := bc2_ BK320
   go_wp2
   go_meet
   case rel => exact ⟨_, (true), es_, H', ⟨by first | omega | exact Nat.le_refl _⟩, ⟨bw_ BK320.out⟩, ⟨hb_ HB⟩⟩
  ·rw [if_neg c5] at H
   have c5b0 : decide (150 < (l0_0.length : Int)) = false := decide_eq_false c5
   have c5b1 : decide (150 < l0_0.length) = false := decide_eq_false (by omega)
   clear c5
   (first | rw [c5b0] | (simp only [i64_w, i32_w]; rw [c5b0]) | skip)
   replace H := Option.bind_eq_some_iff.mp H
   obtain ⟨t321, A70, H⟩ := H
   replace H : (calamuslaw11_TreeBack.j0 k a1 (!t321) l0_0 a0_1) = some r := H
   have A7 := Aside0.mk A70
   clear A70
   have H' := Aside0.mk H
   clear H
   obtain ⟨hcz8_0, hcz8_1, hfz8_0, hfz8_1⟩ := bc2_ BK320
   go_wp2_with (first | (go_at_call 36; (with_reducible refine (tree_Right.calls k _ _ l0_0 a0_1 t321 _ ?side1 ?side2 A7.out).mono ?_); (case side1 => exact cw_ (Kd.C_below HR0_0.out HB.out)); (case side2 => exact HC0_0.out); rintro e w9 ⟨rfl, hb⟩; replace BK320 := bb_ BK320 hb; replace HB := bs_ HB hb; (try clear hb); (try clear hb2); (try clear hk); (try clear hi)))
   go_meet
   case rel => exact ⟨_, (!t321), es_, H', ⟨by first | omega | exact Nat.le_refl _⟩, ⟨bw_ BK320.out⟩, ⟨hb_ HB⟩⟩
 case rest =>
  clear HC3
  obtain ⟨kq, x32_2, rfl, HA, HJ2, BK320, HB⟩ := hcut
  cases kq with
  | zero => exact absurd HA.out (by simp [calamuslaw11_TreeBack.j0])
  | succ kj2 =>
   have H := HA.out
   clear HA
   simp only [calamuslaw11_TreeBack.j0] at H
   by_cases c10 : x32_2 = true
   ·subst c10
    have H1 : ((calamuslaw11_lives.f kj2).bind fun t322 => (some t322)) = some r := by rw [if_pos rfl] at H; exact H
    clear H
    have H := H1
    clear H1
    replace H := Option.bind_eq_some_iff.mp H
    obtain ⟨t322, A110, H⟩ := H
    replace H : (some t322) = some r := H
    have A11 := Aside0.mk A110
    clear A110
    obtain rfl := Option.some.inj H
    go_wp2_with (first | ((with_reducible refine gate_callee (f := 33) rfl ?_); refine ge_ (some 33) rfl rfl Try.func33 (by kernel_rfl) rfl #[] rfl (h := ?_); (with_reducible refine (calamuslaw11_lives.calls kj2  t322 _ A11.out).mono ?_); rintro e w12 ⟨rfl, hb⟩; refine ⟨_, rfl, ?_⟩; replace BK320 := bb_ BK320 hb; replace HB := bs_ HB hb; (try clear hb); (try clear hb2); (try clear hk); (try clear hi)))
    go_ret
    exact ⟨er_, hb_ HB⟩
   ·replace c10 := Bool.eq_false_iff.mpr c10
    subst c10
    have H1 : ((tree_Redo.f kj2 l0_0 a0_1).bind fun bt323 => (if bt323.2.2.2 = true then ((tree_Undo.f kj2 bt323.1 bt323.2.1).bind fun bt330 => (if bt330.2.2.2 = true then (if bt330.2.2.1 = bt323.2.2.1 then ((tree_Same.f kj2 bt330.1 bt330.2.1 l0_0 a0_1).bind fun t337 => (if t337 = true then (calamuslaw11_TreeBack.j1 kj2 a1 l0_0 a0_1 bt323.1 bt323.2.1) else (some false))) else (some false)) else (some false))) else (calamuslaw11_TreeBack.j1 kj2 a1 l0_0 a0_1 bt323.1 bt323.2.1))) = some r := by rw [if_neg (show ¬ (false = true) by decide)] at H; exact H
    clear H
    have H := H1
    clear H1
    replace H := Option.bind_eq_some_iff.mp H
    obtain ⟨⟨t323, t326, t327, t328⟩, A130, H⟩ := H
    replace H : (if t328 = true then ((tree_Undo.f kj2 t323 t326).bind fun bt330 => (if bt330.2.2.2 = true then (if bt330.2.2.1 = t327 then ((tree_Same.f kj2 bt330.1 bt330.2.1 l0_0 a0_1).bind fun t337 => (if t337 = true then (calamuslaw11_TreeBack.j1 kj2 a1 l0_0 a0_1 t323 t326) else (some false))) else (some false)) else (some false))) else (calamuslaw11_TreeBack.j1 kj2 a1 l0_0 a0_1 t323 t326)) = some r := H
    have A13 := Aside0.mk A130
    clear A130
    have HC14 := Aside0.mk H
    clear H
    obtain ⟨hcz15_0, hcz15_1, hfz15_0, hfz15_1⟩ := bc2_ BK320
    go_upto_if 40 with (first | ((with_reducible refine gate_callee (f := 44) rfl ?_); refine ge_ (some 36) rfl rfl Try.func44 (by kernel_rfl) rfl #[.agg #[.slice A0_0 l0_0.length c0_0, .int .i64 a0_1]] rfl (h := ?_); (with_reducible refine (tree_Redo.calls kj2 _ _ l0_0 a0_1 t323 t326 t327 t328 _ ?side1 ?side2 A13.out).mono ?_); (case side1 => exact cw_ (Kd.C_below HR0_0.out HB.out)); (case side2 => exact HC0_0.out); rintro e w16 ⟨v324, rfl, ho0, hb⟩; refine ⟨_, rfl, ?_⟩; have HO325 := Aside0.mk (Kd.R_lower ho0 (below_size (hb_ HB))); replace BK320 := bb_ BK320 hb; replace HB := bs_ HB hb; (try clear hb); (try clear hb2); (try clear hk); (try clear hi); (try clear ho0)) | ((with_reducible refine gate_dst (N := 5) rfl ?_); (try (refine gate_guard (by rfl) ?_; dsimp only)); refine be_ (N := 5) (cs := #[.slice none 0 0, .int .i64 0]) (t := 46) (h := ?_); intro gb329 hg w17 hbox hb; have BK329 := Aside0.mk (hbox); have GW329 := gw_ HB hg; have GE329 := gw_ HB hg; have NB320_329 := ne_ BK320 hg; have NB329_320 := en_ BK320 hg; replace HO325 := Aside0.mk (Kd.R_below (rw_ HO325.out) hb); replace BK320 := bb_ BK320 hb; replace HB := bs_ HB hb; clear hb hbox hg; obtain ⟨Ao18, co18, eo18⟩ := Kd.R_slice HO325.out; subst eo18; have hnb19 := NB329_320.out; have hnc19 := NB320_329.out; obtain ⟨hcz20_0, hcz20_1, hfz20_0, hfz20_1⟩ := bc2_ BK329))
    (try simp only [Act.put, List.setIfInBounds_toArray, List.set_cons_zero, List.set_cons_succ])
    go_cut [] (fun wc => ∃ (kq : Nat), Aside0 (calamuslaw11_TreeBack.j1 kq a1 l0_0 a0_1 t323 t326 = some r) ∧ Aside0 (kq ≤ kj2) ∧ Aside0 (Kd.R k69 69 wc w.heap.size (fun _ => True) (.slice Ao18 t323.length co18) t323) ∧ Aside0 (wc.heap[gb320]? = some (.cells #[(.slice A0_0 l0_0.length c0_0), .int .i64 a0_1] 46 (0, 0))) ∧ Aside0 (wc.heap[gb329]? = some (.cells #[(.slice Ao18 t323.length co18), .int .i64 t326] 46 (0, 0))) ∧ Aside0 (Below w.heap.size w wc))
    case first =>
     have H := HC14.out
     clear HC14
     by_cases c21 : t328 = true
     ·subst c21
      have H1 : ((tree_Undo.f kj2 t323 t326).bind fun bt330 => (if bt330.2.2.2 = true then (if bt330.2.2.1 = t327 then ((tree_Same.f kj2 bt330.1 bt330.2.1 l0_0 a0_1).bind fun t337 => (if t337 = true then (calamuslaw11_TreeBack.j1 kj2 a1 l0_0 a0_1 t323 t326) else (some false))) else (some false)) else (some false))) = some r := by rw [if_pos rfl] at H; exact H
      clear H
      have H := H1
      clear H1
      replace H := Option.bind_eq_some_iff.mp H
      obtain ⟨⟨t330, t333, t334, t335⟩, A220, H⟩ := H
      replace H : (if t335 = true then (if t334 = t327 then ((tree_Same.f kj2 t330 t333 l0_0 a0_1).bind fun t337 => (if t337 = true then (calamuslaw11_TreeBack.j1 kj2 a1 l0_0 a0_1 t323 t326) else (some false))) else (some false)) else (some false)) = some r := H
      have A22 := Aside0.mk A220
      clear A220
      by_cases c23 : t335 = true
      ·subst c23
       have H1 : (if t334 = t327 then ((tree_Same.f kj2 t330 t333 l0_0 a0_1).bind fun t337 => (if t337 = true then (calamuslaw11_TreeBack.j1 kj2 a1 l0_0 a0_1 t323 t326) else (some false))) else (some false)) = some r := by rw [if_pos rfl] at H; exact H
       clear H
       have H := H1
       clear H1
       by_cases c24 : t334 = t327
       ·rw [if_pos c24] at H
        have c24b0 : (t334 == t327) = true := beq_iff_eq.mpr c24
        have c24b1 : (t334 != t327) = false := bne_eq_false_iff_eq.mpr c24
        clear c24
        (first | rw [c24b0] | (simp only [i64_w, i32_w]; rw [c24b0]) | skip)
        replace H := Option.bind_eq_some_iff.mp H
        obtain ⟨t337, A250, H⟩ := H
        replace H : (if t337 = true then (calamuslaw11_TreeBack.j1 kj2 a1 l0_0 a0_1 t323 t326) else (some false)) = some r := H
        have A25 := Aside0.mk A250
        clear A250
        by_cases c26 : t337 = true
        ·subst c26
         have H1 : (calamuslaw11_TreeBack.j1 kj2 a1 l0_0 a0_1 t323 t326) = some r := by rw [if_pos rfl] at H; exact H
         clear H
         have H := H1
         clear H1
         have H' := Aside0.mk H
         clear H
         have hnb27 := NB329_320.out
         have hnc27 := NB320_329.out
         obtain ⟨hcz28_0, hcz28_1, hfz28_0, hfz28_1⟩ := bc2_ BK329
         go_wp2_with (first | ((with_reducible refine gate_callee (f := 42) rfl ?_); refine ge_ (some 43) rfl rfl Try.func42 (by kernel_rfl) rfl #[.agg #[.slice Ao18 t323.length co18, .int .i64 t326]] rfl (h := ?_); (with_reducible refine (tree_Undo.calls kj2 _ _ t323 t326 t330 t333 t334 true _ ?side1 ?side2 A22.out).mono ?_); (case side1 => refine (Kd.R_reads' (e := 69) (base := w.heap.size) (ok := fun k_ => True) (n := t323.length) (c := co18) ?_).2.2; exact (by (with_reducible repeat (first | apply Kd.R_alloc | apply Kd.R_drewN | apply Kd.R_drew)); exact (Kd.R_mono (rf_ (Kd.R_types HO325.out BK329.out (by decide)) (fun _ hk => hk.2)) (fun _ h_ => h_.1)))); (case side2 => exact (Kd.R_reads' HO325.out).2.1); rintro e w29 ⟨v331, rfl, ho0, hb⟩; refine ⟨_, rfl, ?_⟩; have HO332 := Aside0.mk (Kd.R_lower (Kd.R_new' ho0 (Kd.R_lt (by (with_reducible repeat (first | apply Kd.R_alloc | apply Kd.R_drewN | apply Kd.R_drew)); exact (Kd.R_mono (rf_ (Kd.R_types HO325.out BK329.out (by decide)) (fun _ hk => hk.2)) (fun _ h_ => h_.1))))) (below_size (hb_ HB))); replace HO325 := Aside0.mk (Kd.R_elder' (by (with_reducible repeat (first | apply Kd.R_alloc | apply Kd.R_drewN | apply Kd.R_drew)); exact (Kd.R_mono (rf_ (Kd.R_types HO325.out BK329.out (by decide)) (fun _ hk => hk.2)) (fun _ h_ => h_.1))) (Kd.R_base ho0) hb); replace BK320 := Aside0.mk (blk_below (g := gb320) (o := .cells #[.slice A0_0 l0_0.length c0_0, .int .i64 a0_1] 46 (0, 0)) (bp_ BK320.out) hb); replace HB := bs_ HB hb; replace BK329 := Aside0.mk (blk_below (g := gb329) (o := .cells #[.slice Ao18 t323.length co18, .int .i64 t326] 46 (0, 0)) (bp_ BK329.out) hb); (try clear hb); (try clear hb2); (try clear hk); (try clear hi); (try clear ho0)) | ((with_reducible refine gate_dst (N := 8) rfl ?_); (try (refine gate_guard (by rfl) ?_; dsimp only)); refine be_ (N := 8) (cs := #[.slice none 0 0, .int .i64 0]) (t := 46) (h := ?_); intro gb336 hg w30 hbox hb; have BK336 := Aside0.mk (hbox); have GW336 := gw_ HB hg; have GE336 := gw_ HB hg; have NB320_336 := ne_ BK320 hg; have NB336_320 := en_ BK320 hg; have NB329_336 := ne_ BK329 hg; have NB336_329 := en_ BK329 hg; replace HO325 := Aside0.mk (Kd.R_below (rw_ HO325.out) hb); replace HO332 := Aside0.mk (Kd.R_below (rw_ HO332.out) hb); replace BK320 := bb_ BK320 hb; replace BK329 := bb_ BK329 hb; replace HB := bs_ HB hb; clear hb hbox hg; obtain ⟨Ao31, co31, eo31⟩ := Kd.R_slice HO332.out; subst eo31; have hnb32 := NB336_320.out; have hnc32 := NB320_336.out; have hnb33 := NB336_329.out; have hnc33 := NB329_336.out; obtain ⟨hcz34_0, hcz34_1, hfz34_0, hfz34_1⟩ := bc2_ BK336; obtain ⟨hcz35_0, hcz35_1, hfz35_0, hfz35_1⟩ := bc2_ BK320) | (go_at_call 39; (with_reducible refine (tree_Same.calls kj2 _ _ t330 t333 _ _ l0_0 a0_1 true _ ?side1 ?side2 ?side3 ?side4 A25.out).mono ?_); (case side1 => refine (Kd.R_reads' (e := 69) (base := w.heap.size) (ok := fun k_ => (True ∧ some k_ ≠ (.slice Ao18 t323.length co18 : Value).ownBlock)) (n := t330.length) (c := co31) ?_).2.2; exact (by (with_reducible repeat (first | apply Kd.R_alloc | apply Kd.R_drewN | apply Kd.R_drew)); exact (Kd.R_mono (rf_ (Kd.R_types HO332.out BK336.out (by decide)) (fun _ hk => hk.2)) (fun _ h_ => h_.1)))); (case side2 => exact (Kd.R_reads' HO332.out).2.1); (case side3 => exact Kd.C_below HR0_0.out (hb_ HB)); (case side4 => exact HC0_0.out); rintro e w36 ⟨rfl, hb⟩; replace HO325 := Aside0.mk (Kd.R_below (by (with_reducible repeat (first | apply Kd.R_alloc | apply Kd.R_drewN | apply Kd.R_drew)); exact (Kd.R_mono (rf_ (Kd.R_types HO325.out BK336.out (by decide)) (fun _ hk => hk.2)) (fun _ h_ => h_.1))) hb); replace HO332 := Aside0.mk (Kd.R_below (by (with_reducible repeat (first | apply Kd.R_alloc | apply Kd.R_drewN | apply Kd.R_drew)); exact (Kd.R_mono (rf_ (Kd.R_types HO332.out BK336.out (by decide)) (fun _ hk => hk.2)) (fun _ h_ => h_.1))) hb); replace BK320 := Aside0.mk (blk_below (g := gb320) (o := .cells #[.slice A0_0 l0_0.length c0_0, .int .i64 a0_1] 46 (0, 0)) (bp_ BK320.out) hb); replace BK329 := Aside0.mk (blk_below (g := gb329) (o := .cells #[.slice Ao18 t323.length co18, .int .i64 t326] 46 (0, 0)) (bp_ BK329.out) hb); replace HB := bs_ HB hb; replace BK336 := Aside0.mk (blk_below (g := gb336) (o := .cells #[.slice Ao31 t330.length co31, .int .i64 t333] 46 (0, 0)) (bp_ BK336.out) hb); (try clear hb); (try clear hb2); (try clear hk); (try clear hi)))
         go_meet
         case rel => exact ⟨_, H', ⟨by have := HJ2.out; first | omega | exact Nat.le_refl _⟩, ⟨by (with_reducible repeat (first | apply Kd.R_alloc | apply Kd.R_drewN | apply Kd.R_drew)); exact Kd.R_mono HO325.out (fun _ hk => trivial)⟩, ⟨bw_ BK320.out⟩, ⟨bw_ BK329.out⟩, ⟨hb_ HB⟩⟩
        ·replace c26 := Bool.eq_false_iff.mpr c26
         subst c26
         have H1 : (some false) = some r := by rw [if_neg (show ¬ (false = true) by decide)] at H; exact H
         clear H
         have H := H1
         clear H1
         exact nf_ H hr_
       ·rw [if_neg c24] at H
        have c24b0 : (t334 == t327) = false := beq_eq_false_iff_ne.mpr c24
        have c24b1 : (t334 != t327) = true := bne_iff_ne.mpr c24
        (first | rw [c24b0] | (simp only [i64_w, i32_w]; rw [c24b0]) | skip)
        exact nf_ H hr_
      ·replace c23 := Bool.eq_false_iff.mpr c23
       subst c23
       have H1 : (some false) = some r := by rw [if_neg (show ¬ (false = true) by decide)] at H; exact H
       clear H
       have H := H1
       clear H1
       exact nf_ H hr_
     ·replace c21 := Bool.eq_false_iff.mpr c21
      subst c21
      have H1 : (calamuslaw11_TreeBack.j1 kj2 a1 l0_0 a0_1 t323 t326) = some r := by rw [if_neg (show ¬ (false = true) by decide)] at H; exact H
      clear H
      have H := H1
      clear H1
      have H' := Aside0.mk H
      clear H
      go_wp2
      go_meet
      case rel => exact ⟨_, H', ⟨by have := HJ2.out; first | omega | exact Nat.le_refl _⟩, ⟨by (with_reducible repeat (first | apply Kd.R_alloc | apply Kd.R_drewN | apply Kd.R_drew)); exact Kd.R_mono (rf_ (Kd.R_types HO325.out BK329.out (by decide)) (fun _ hk => hk.2)) (fun _ hk => trivial)⟩, ⟨bp_ BK320.out⟩, ⟨bp_ BK329.out⟩, ⟨hb_ HB⟩⟩
    case rest =>
     clear HC14
     try clear c10
     try clear hcz15_0
     try clear hcz15_1
     try clear hcz20_0
     try clear hcz20_1
     try clear hfz15_0
     try clear hfz15_1
     try clear hfz20_0
     try clear hfz20_1
     obtain ⟨kq, HA, HJ13, HO_330000, BK320, BK329, HB⟩ := hcut
     cases kq with
     | zero => exact absurd HA.out (by simp [calamuslaw11_TreeBack.j1])
     | succ kj13 =>
      have H := HA.out
      clear HA
      simp only [calamuslaw11_TreeBack.j1] at H
      replace H := Option.bind_eq_some_iff.mp H
      obtain ⟨⟨t338, t341, t342⟩, A630, H⟩ := H
      replace H : (if t342 = 0 then ((tree_Choose.f kj13 t338 t341 a1).bind fun bt346 => ((tree_Right.f kj13 t323 t326).bind fun t352 => (if t352 = true then ((tree_Right.f kj13 t338 t341).bind fun t353 => (if t353 = true then (if t341 = a1 then (if (t338.length : Int) = (l0_0.length : Int) then (if ((bt346.2.2 == 0) != (decide (a1 > 0))) = true then (calamuslaw11_TreeBack.j2 kj13 a1 true l0_0 a0_1 t338 t341) else (if bt346.2.2 = 0 then ((tree_Right.f kj13 bt346.1 bt346.2.1).bind fun t354 => (calamuslaw11_TreeBack.j2 kj13 a1 (!t354) l0_0 a0_1 t338 t341)) else (calamuslaw11_TreeBack.j2 kj13 a1 false l0_0 a0_1 t338 t341))) else (calamuslaw11_TreeBack.j2 kj13 a1 true l0_0 a0_1 t338 t341)) else (calamuslaw11_TreeBack.j2 kj13 a1 true l0_0 a0_1 t338 t341)) else (calamuslaw11_TreeBack.j2 kj13 a1 true l0_0 a0_1 t338 t341))) else (calamuslaw11_TreeBack.j2 kj13 a1 true l0_0 a0_1 t338 t341)))) else (if a1 < 0 then ((calamuslaw11_lives.f kj13).bind fun t344 => (some t344)) else (if a1 ≥ (l0_0.length : Int) then ((calamuslaw11_lives.f kj13).bind fun t345 => (some t345)) else (some false)))) = some r := H
      have A63 := Aside0.mk A630
      clear A630
      by_cases c64 : t342 = 0
      ·rw [if_pos c64] at H
       have c64b0 : (t342 == 0) = true := beq_iff_eq.mpr c64
       have c64b1 : (t342 != 0) = false := bne_eq_false_iff_eq.mpr c64
       clear c64
       replace H := Option.bind_eq_some_iff.mp H
       obtain ⟨⟨t346, t349, t350⟩, A650, H⟩ := H
       replace H : ((tree_Right.f kj13 t323 t326).bind fun t352 => (if t352 = true then ((tree_Right.f kj13 t338 t341).bind fun t353 => (if t353 = true then (if t341 = a1 then (if (t338.length : Int) = (l0_0.length : Int) then (if ((t350 == 0) != (decide (a1 > 0))) = true then (calamuslaw11_TreeBack.j2 kj13 a1 true l0_0 a0_1 t338 t341) else (if t350 = 0 then ((tree_Right.f kj13 t346 t349).bind fun t354 => (calamuslaw11_TreeBack.j2 kj13 a1 (!t354) l0_0 a0_1 t338 t341)) else (calamuslaw11_TreeBack.j2 kj13 a1 false l0_0 a0_1 t338 t341))) else (calamuslaw11_TreeBack.j2 kj13 a1 true l0_0 a0_1 t338 t341)) else (calamuslaw11_TreeBack.j2 kj13 a1 true l0_0 a0_1 t338 t341)) else (calamuslaw11_TreeBack.j2 kj13 a1 true l0_0 a0_1 t338 t341))) else (calamuslaw11_TreeBack.j2 kj13 a1 true l0_0 a0_1 t338 t341))) = some r := H
       have A65 := Aside0.mk A650
       clear A650
       have HC66 := Aside0.mk H
       clear H
       have hnb67 := NB320_329.out
       have hnc67 := NB329_320.out
       obtain ⟨hcz68_0, hcz68_1, hfz68_0, hfz68_1⟩ := bc2_ BK320
       go_upto_region 12 with (first | ((with_reducible refine gate_callee (f := 53) rfl ?_); refine ge_ (some 63) rfl rfl Try.func53 (by kernel_rfl) rfl #[.agg #[.slice A0_0 l0_0.length c0_0, .int .i64 a0_1], .int .i64 a1] rfl (h := ?_); (with_reducible refine (tree_To.calls kj13 _ _ l0_0 a0_1 a1 t338 t341 t342 _ ?side1 ?side2 A63.out).mono ?_); (case side1 => exact cw_ (Kd.C_below HR0_0.out HB.out)); (case side2 => exact HC0_0.out); rintro e w69 ⟨v339, rfl, ho0, hb⟩; refine ⟨_, rfl, ?_⟩; have HO340 := Aside0.mk (Kd.R_lower (Kd.R_new' ho0 (Kd.R_lt (rw_ HO_330000.out))) (below_size (hb_ HB))); replace HO_330000 := Aside0.mk (Kd.R_elder' (rw_ HO_330000.out) (Kd.R_base ho0) hb); replace BK320 := bb_ BK320 hb; replace BK329 := bb_ BK329 hb; replace HB := bs_ HB hb; (try clear hb); (try clear hb2); (try clear hk); (try clear hi); (try clear ho0)) | ((with_reducible refine gate_dst (N := 11) rfl ?_); (try (refine gate_guard (by rfl) ?_; dsimp only)); refine be_ (N := 11) (cs := #[.slice none 0 0, .int .i64 0]) (t := 46) (h := ?_); intro gb343 hg w70 hbox hb; have BK343 := Aside0.mk (hbox); have GW343 := gw_ HB hg; have GE343 := gw_ HB hg; have NB320_343 := ne_ BK320 hg; have NB343_320 := en_ BK320 hg; have NB329_343 := ne_ BK329 hg; have NB343_329 := en_ BK329 hg; replace HO_330000 := Aside0.mk (Kd.R_below (rw_ HO_330000.out) hb); replace HO340 := Aside0.mk (Kd.R_below (rw_ HO340.out) hb); replace BK320 := bb_ BK320 hb; replace BK329 := bb_ BK329 hb; replace HB := bs_ HB hb; clear hb hbox hg; obtain ⟨Ao71, co71, eo71⟩ := Kd.R_slice HO340.out; subst eo71; have hnb72 := NB343_320.out; have hnc72 := NB320_343.out; have hnb73 := NB343_329.out; have hnc73 := NB329_343.out; obtain ⟨hcz74_0, hcz74_1, hfz74_0, hfz74_1⟩ := bc2_ BK343) | ((with_reducible refine gate_callee (f := 49) rfl ?_); refine ge_ (some 83) rfl rfl Try.func49 (by kernel_rfl) rfl #[.agg #[.slice Ao71 t338.length co71, .int .i64 t341], .int .i64 a1] rfl (h := ?_); (with_reducible refine (tree_Choose.calls kj13 _ _ t338 t341 a1 t346 t349 t350 _ ?side1 ?side2 A65.out).mono ?_); (case side1 => refine (Kd.R_reads' (e := 69) (base := w.heap.size) (ok := fun k_ => (True ∧ some k_ ≠ (.slice Ao18 t323.length co18 : Value).ownBlock)) (n := t338.length) (c := co71) ?_).2.2; exact (by (with_reducible repeat (first | apply Kd.R_alloc | apply Kd.R_drewN | apply Kd.R_drew)); exact (Kd.R_mono (rf_ (Kd.R_types HO340.out BK343.out (by decide)) (fun _ hk => hk.2)) (fun _ h_ => h_.1)))); (case side2 => exact (Kd.R_reads' HO340.out).2.1); rintro e w75 ⟨v347, rfl, ho0, hb⟩; refine ⟨_, rfl, ?_⟩; have HO348 := Aside0.mk (Kd.R_lower (Kd.R_new' (Kd.R_new' ho0 (Kd.R_lt (by (with_reducible repeat (first | apply Kd.R_alloc | apply Kd.R_drewN | apply Kd.R_drew)); exact (Kd.R_mono (rf_ (Kd.R_types HO_330000.out BK343.out (by decide)) (fun _ hk => hk.2)) (fun _ h_ => h_.1))))) (Kd.R_lt (by (with_reducible repeat (first | apply Kd.R_alloc | apply Kd.R_drewN | apply Kd.R_drew)); exact (Kd.R_mono (rf_ (Kd.R_types HO340.out BK343.out (by decide)) (fun _ hk => hk.2)) (fun _ h_ => h_.1))))) (below_size (hb_ HB))); replace HO_330000 := Aside0.mk (Kd.R_elder' (by (with_reducible repeat (first | apply Kd.R_alloc | apply Kd.R_drewN | apply Kd.R_drew)); exact (Kd.R_mono (rf_ (Kd.R_types HO_330000.out BK343.out (by decide)) (fun _ hk => hk.2)) (fun _ h_ => h_.1))) (Kd.R_base ho0) hb); replace HO340 := Aside0.mk (Kd.R_elder' (by (with_reducible repeat (first | apply Kd.R_alloc | apply Kd.R_drewN | apply Kd.R_drew)); exact (Kd.R_mono (rf_ (Kd.R_types HO340.out BK343.out (by decide)) (fun _ hk => hk.2)) (fun _ h_ => h_.1))) (Kd.R_base ho0) hb); replace BK320 := Aside0.mk (blk_below (g := gb320) (o := .cells #[.slice A0_0 l0_0.length c0_0, .int .i64 a0_1] 46 (0, 0)) (bp_ BK320.out) hb); replace BK329 := Aside0.mk (blk_below (g := gb329) (o := .cells #[.slice Ao18 t323.length co18, .int .i64 t326] 46 (0, 0)) (bp_ BK329.out) hb); replace HB := bs_ HB hb; replace BK343 := Aside0.mk (blk_below (g := gb343) (o := .cells #[.slice Ao71 t338.length co71, .int .i64 t341] 46 (0, 0)) (bp_ BK343.out) hb); (try clear hb); (try clear hb2); (try clear hk); (try clear hi); (try clear ho0)) | ((with_reducible refine gate_dst (N := 13) rfl ?_); (try (refine gate_guard (by rfl) ?_; dsimp only)); refine be_ (N := 13) (cs := #[.slice none 0 0, .int .i64 0]) (t := 46) (h := ?_); intro gb351 hg w76 hbox hb; have BK351 := Aside0.mk (hbox); have GW351 := gw_ HB hg; have GE351 := gw_ HB hg; have NB320_351 := ne_ BK320 hg; have NB351_320 := en_ BK320 hg; have NB329_351 := ne_ BK329 hg; have NB351_329 := en_ BK329 hg; have NB343_351 := ne_ BK343 hg; have NB351_343 := en_ BK343 hg; replace HO_330000 := Aside0.mk (Kd.R_below (rw_ HO_330000.out) hb); replace HO340 := Aside0.mk (Kd.R_below (rw_ HO340.out) hb); replace HO348 := Aside0.mk (Kd.R_below (rw_ HO348.out) hb); replace BK320 := bb_ BK320 hb; replace BK329 := bb_ BK329 hb; replace BK343 := bb_ BK343 hb; replace HB := bs_ HB hb; clear hb hbox hg; obtain ⟨Ao77, co77, eo77⟩ := Kd.R_slice HO348.out; subst eo77; have hnb78 := NB351_320.out; have hnc78 := NB320_351.out; have hnb79 := NB351_329.out; have hnc79 := NB329_351.out; have hnb80 := NB351_343.out; have hnc80 := NB343_351.out; obtain ⟨hcz81_0, hcz81_1, hfz81_0, hfz81_1⟩ := bc2_ BK351))
       (try simp only [Act.put, List.setIfInBounds_toArray, List.set_cons_zero, List.set_cons_succ])
       go_cut [124] (fun v124 wc => ∃ (kq : Nat) (x124_65 : Bool), v124 = .bool x124_65 ∧ Aside0 (calamuslaw11_TreeBack.j2 kq a1 x124_65 l0_0 a0_1 t338 t341 = some r) ∧ Aside0 (kq ≤ kj13) ∧ Aside0 (Kd.R k69 69 wc w.heap.size (fun k_ => some k_ ≠ ((.slice Ao71 t338.length co71) : Value).ownBlock ∧ some k_ ≠ ((.slice Ao77 t346.length co77) : Value).ownBlock) (.slice Ao18 t323.length co18) t323) ∧ Aside0 (Kd.R k69 69 wc w.heap.size (fun k_ => some k_ ≠ ((.slice Ao18 t323.length co18) : Value).ownBlock ∧ some k_ ≠ ((.slice Ao77 t346.length co77) : Value).ownBlock) (.slice Ao71 t338.length co71) t338) ∧ Aside0 (Kd.R k69 69 wc w.heap.size (fun k_ => some k_ ≠ ((.slice Ao18 t323.length co18) : Value).ownBlock ∧ some k_ ≠ ((.slice Ao71 t338.length co71) : Value).ownBlock) (.slice Ao77 t346.length co77) t346) ∧ Aside0 (wc.heap[gb320]? = some (.cells #[(.slice A0_0 l0_0.length c0_0), .int .i64 a0_1] 46 (0, 0))) ∧ Aside0 (wc.heap[gb329]? = some (.cells #[(.slice Ao18 t323.length co18), .int .i64 t326] 46 (0, 0))) ∧ Aside0 (wc.heap[gb343]? = some (.cells #[(.slice Ao71 t338.length co71), .int .i64 t341] 46 (0, 0))) ∧ Aside0 (wc.heap[gb351]? = some (.cells #[(.slice Ao77 t346.length co77), .int .i64 t349] 46 (0, 0))) ∧ Aside0 (Below w.heap.size w wc))
       case first =>
        have H := HC66.out
        clear HC66
        replace H := Option.bind_eq_some_iff.mp H
        obtain ⟨t352, A820, H⟩ := H
        replace H : (if t352 = true then ((tree_Right.f kj13 t338 t341).bind fun t353 => (if t353 = true then (if t341 = a1 then (if (t338.length : Int) = (l0_0.length : Int) then (if ((t350 == 0) != (decide (a1 > 0))) = true then (calamuslaw11_TreeBack.j2 kj13 a1 true l0_0 a0_1 t338 t341) else (if t350 = 0 then ((tree_Right.f kj13 t346 t349).bind fun t354 => (calamuslaw11_TreeBack.j2 kj13 a1 (!t354) l0_0 a0_1 t338 t341)) else (calamuslaw11_TreeBack.j2 kj13 a1 false l0_0 a0_1 t338 t341))) else (calamuslaw11_TreeBack.j2 kj13 a1 true l0_0 a0_1 t338 t341)) else (calamuslaw11_TreeBack.j2 kj13 a1 true l0_0 a0_1 t338 t341)) else (calamuslaw11_TreeBack.j2 kj13 a1 true l0_0 a0_1 t338 t341))) else (calamuslaw11_TreeBack.j2 kj13 a1 true l0_0 a0_1 t338 t341)) = some r := H
        have A82 := Aside0.mk A820
        clear A820
        by_cases c83 : t352 = true
        ·subst c83
         have H1 : ((tree_Right.f kj13 t338 t341).bind fun t353 => (if t353 = true then (if t341 = a1 then (if (t338.length : Int) = (l0_0.length : Int) then (if ((t350 == 0) != (decide (a1 > 0))) = true then (calamuslaw11_TreeBack.j2 kj13 a1 true l0_0 a0_1 t338 t341) else (if t350 = 0 then ((tree_Right.f kj13 t346 t349).bind fun t354 => (calamuslaw11_TreeBack.j2 kj13 a1 (!t354) l0_0 a0_1 t338 t341)) else (calamuslaw11_TreeBack.j2 kj13 a1 false l0_0 a0_1 t338 t341))) else (calamuslaw11_TreeBack.j2 kj13 a1 true l0_0 a0_1 t338 t341)) else (calamuslaw11_TreeBack.j2 kj13 a1 true l0_0 a0_1 t338 t341)) else (calamuslaw11_TreeBack.j2 kj13 a1 true l0_0 a0_1 t338 t341))) = some r := by rw [if_pos rfl] at H; exact H
         clear H
         have H := H1
         clear H1
         replace H := Option.bind_eq_some_iff.mp H
         obtain ⟨t353, A840, H⟩ := H
         replace H : (if t353 = true then (if t341 = a1 then (if (t338.length : Int) = (l0_0.length : Int) then (if ((t350 == 0) != (decide (a1 > 0))) = true then (calamuslaw11_TreeBack.j2 kj13 a1 true l0_0 a0_1 t338 t341) else (if t350 = 0 then ((tree_Right.f kj13 t346 t349).bind fun t354 => (calamuslaw11_TreeBack.j2 kj13 a1 (!t354) l0_0 a0_1 t338 t341)) else (calamuslaw11_TreeBack.j2 kj13 a1 false l0_0 a0_1 t338 t341))) else (calamuslaw11_TreeBack.j2 kj13 a1 true l0_0 a0_1 t338 t341)) else (calamuslaw11_TreeBack.j2 kj13 a1 true l0_0 a0_1 t338 t341)) else (calamuslaw11_TreeBack.j2 kj13 a1 true l0_0 a0_1 t338 t341)) = some r := H
         have A84 := Aside0.mk A840
         clear A840
         by_cases c85 : t353 = true
         ·subst c85
          have H1 : (if t341 = a1 then (if (t338.length : Int) = (l0_0.length : Int) then (if ((t350 == 0) != (decide (a1 > 0))) = true then (calamuslaw11_TreeBack.j2 kj13 a1 true l0_0 a0_1 t338 t341) else (if t350 = 0 then ((tree_Right.f kj13 t346 t349).bind fun t354 => (calamuslaw11_TreeBack.j2 kj13 a1 (!t354) l0_0 a0_1 t338 t341)) else (calamuslaw11_TreeBack.j2 kj13 a1 false l0_0 a0_1 t338 t341))) else (calamuslaw11_TreeBack.j2 kj13 a1 true l0_0 a0_1 t338 t341)) else (calamuslaw11_TreeBack.j2 kj13 a1 true l0_0 a0_1 t338 t341)) = some r := by rw [if_pos rfl] at H; exact H
          clear H
          have H := H1
          clear H1
          by_cases c86 : t341 = a1
          ·rw [if_pos c86] at H
           have c86b0 : (t341 == a1) = true := beq_iff_eq.mpr c86
           have c86b1 : (t341 != a1) = false := bne_eq_false_iff_eq.mpr c86
           clear c86
           (first | rw [c86b0] | (simp only [i64_w, i32_w]; rw [c86b0]) | skip)
           by_cases c87 : (t338.length : Int) = (l0_0.length : Int)
           ·rw [if_pos c87] at H
            have c87b0 : ((t338.length : Int) == (l0_0.length : Int)) = true := beq_iff_eq.mpr c87
            have c87b1 : ((t338.length : Int) != (l0_0.length : Int)) = false := bne_eq_false_iff_eq.mpr c87
            have c87b2 : (t338.length == l0_0.length) = true := by first | simpa using c87 | (simp at c87 ⊢; omega)
            clear c87
            by_cases c88 : ((t350 == 0) != (decide (a1 > 0))) = true
            ·rw [if_pos c88] at H
             have c88b0 : ((t350 == 0) != (decide (a1 > 0))) = true := c88
             (try (have c88b1 : decide ((t350 == 0) = (decide (a1 > 0))) = false := by simpa using c88))
             (try (have c88b2 : ((t350 == 0) == (decide (a1 > 0))) = false := by simpa using c88))
             (try (have c88b3 : ¬ ((t350 == 0) = (decide (a1 > 0))) := by simpa using c88))
             clear c88
             have H' := Aside0.mk H
             clear H
             have hnb89 := NB329_320.out
             have hnc89 := NB320_329.out
             have hnb90 := NB329_343.out
             have hnc90 := NB343_329.out
             have hnb91 := NB329_351.out
             have hnc91 := NB351_329.out
             obtain ⟨hcz92_0, hcz92_1, hfz92_0, hfz92_1⟩ := bc2_ BK329
             go_wp2_with (first | ((with_reducible refine gate_callee (f := 36) rfl ?_); refine ge_ (some 87) rfl rfl Try.func36 (by kernel_rfl) rfl #[.agg #[.slice Ao18 t323.length co18, .int .i64 t326]] rfl (h := ?_); (with_reducible refine (tree_Right.calls kj13 _ _ t323 t326 true _ ?side1 ?side2 A82.out).mono ?_); (case side1 => refine (Kd.R_reads' (e := 69) (base := w.heap.size) (ok := fun k_ => ((True ∧ some k_ ≠ (.slice Ao71 t338.length co71 : Value).ownBlock) ∧ some k_ ≠ (.slice Ao77 t346.length co77 : Value).ownBlock)) (n := t323.length) (c := co18) ?_).2.2; exact (by (with_reducible repeat (first | apply Kd.R_alloc | apply Kd.R_drewN | apply Kd.R_drew)); exact (Kd.R_mono (rf_ (Kd.R_types HO_330000.out BK351.out (by decide)) (fun _ hk => hk.2)) (fun _ h_ => h_.1)))); (case side2 => exact (Kd.R_reads' HO_330000.out).2.1); rintro e w93 ⟨rfl, hb⟩; refine ⟨_, rfl, ?_⟩; replace HO_330000 := Aside0.mk (Kd.R_below (by (with_reducible repeat (first | apply Kd.R_alloc | apply Kd.R_drewN | apply Kd.R_drew)); exact (Kd.R_mono (rf_ (Kd.R_types HO_330000.out BK351.out (by decide)) (fun _ hk => hk.2)) (fun _ h_ => h_.1))) hb); replace HO340 := Aside0.mk (Kd.R_below (by (with_reducible repeat (first | apply Kd.R_alloc | apply Kd.R_drewN | apply Kd.R_drew)); exact (Kd.R_mono (rf_ (Kd.R_types HO340.out BK351.out (by decide)) (fun _ hk => hk.2)) (fun _ h_ => h_.1))) hb); replace HO348 := Aside0.mk (Kd.R_below (by (with_reducible repeat (first | apply Kd.R_alloc | apply Kd.R_drewN | apply Kd.R_drew)); exact (Kd.R_mono (rf_ (Kd.R_types HO348.out BK351.out (by decide)) (fun _ hk => hk.2)) (fun _ h_ => h_.1))) hb); replace BK320 := Aside0.mk (blk_below (g := gb320) (o := .cells #[.slice A0_0 l0_0.length c0_0, .int .i64 a0_1] 46 (0, 0)) (bp_ BK320.out) hb); replace BK329 := Aside0.mk (blk_below (g := gb329) (o := .cells #[.slice Ao18 t323.length co18, .int .i64 t326] 46 (0, 0)) (bp_ BK329.out) hb); replace BK343 := Aside0.mk (blk_below (g := gb343) (o := .cells #[.slice Ao71 t338.length co71, .int .i64 t341] 46 (0, 0)) (bp_ BK343.out) hb); replace HB := bs_ HB hb; replace BK351 := Aside0.mk (blk_below (g := gb351) (o := .cells #[.slice Ao77 t346.length co77, .int .i64 t349] 46 (0, 0)) (bp_ BK351.out) hb); (try clear hb); (try clear hb2); (try clear hk); (try clear hi); have hnb94 := NB343_320.out; have hnc94 := NB320_343.out; have hnb95 := NB343_351.out; have hnc95 := NB351_343.out; obtain ⟨hcz96_0, hcz96_1, hfz96_0, hfz96_1⟩ := bc2_ BK343) | (go_at_call 36; (with_reducible refine (tree_Right.calls kj13 _ _ t338 t341 true _ ?side1 ?side2 A84.out).mono ?_); (case side1 => repeat (first | exact (Kd.R_reads' HO340.out).2.2 | (with_reducible refine Kd.C_alloc ?_ _) | (with_reducible refine Kd.C_drewN ?_ _) | (with_reducible refine Kd.C_drew ?_))); (case side2 => exact (Kd.R_reads' HO340.out).2.1); rintro e w97 ⟨rfl, hb⟩; replace HO_330000 := Aside0.mk (Kd.R_below (rw_ HO_330000.out) hb); replace HO340 := Aside0.mk (Kd.R_below (rw_ HO340.out) hb); replace HO348 := Aside0.mk (Kd.R_below (rw_ HO348.out) hb); replace BK320 := bb_ BK320 hb; replace BK329 := bb_ BK329 hb; replace BK343 := bb_ BK343 hb; replace BK351 := bb_ BK351 hb; replace HB := bs_ HB hb; (try clear hb); (try clear hb2); (try clear hk); (try clear hi); obtain ⟨hcz98_0, hcz98_1, hfz98_0, hfz98_1⟩ := bc2_ BK343; have hnb99 := NB320_351.out; have hnc99 := NB351_320.out; obtain ⟨hcz100_0, hcz100_1, hfz100_0, hfz100_1⟩ := bc2_ BK320))
             go_meet
             case rel => exact ⟨_, (true), es_, H', ⟨by have := HJ2.out; have := HJ13.out; first | omega | exact Nat.le_refl _⟩, ⟨by (with_reducible repeat (first | apply Kd.R_alloc | apply Kd.R_drewN | apply Kd.R_drew)); exact Kd.R_mono HO_330000.out (fun _ hk => ⟨hk.1.2, hk.2⟩)⟩, ⟨by (with_reducible repeat (first | apply Kd.R_alloc | apply Kd.R_drewN | apply Kd.R_drew)); exact Kd.R_mono HO340.out (fun _ hk => ⟨hk.1.2, hk.2⟩)⟩, ⟨by (with_reducible repeat (first | apply Kd.R_alloc | apply Kd.R_drewN | apply Kd.R_drew)); exact Kd.R_mono HO348.out (fun _ hk => ⟨hk.1.2, hk.2⟩)⟩, ⟨bw_ BK320.out⟩, ⟨bw_ BK329.out⟩, ⟨bw_ BK343.out⟩, ⟨bw_ BK351.out⟩, ⟨hb_ HB⟩⟩
            ·rw [if_neg c88] at H
             have c88b0 : ((t350 == 0) != (decide (a1 > 0))) = false := by simpa using c88
             (try (have c88b1 : decide ((t350 == 0) = (decide (a1 > 0))) = true := by simpa using c88))
             (try (have c88b2 : ((t350 == 0) == (decide (a1 > 0))) = true := by simpa using c88))
             clear c88
             by_cases c101 : t350 = 0
             ·rw [if_pos c101] at H
              have c101b0 : (t350 == 0) = true := beq_iff_eq.mpr c101
              have c101b1 : (t350 != 0) = false := bne_eq_false_iff_eq.mpr c101
              have hz_ : decide (0 < a1) = true := by have h_ := c88b0; rw [c101b0] at h_; simpa using h_
              clear c101
              replace H := Option.bind_eq_some_iff.mp H
              obtain ⟨t354, A1020, H⟩ := H
              replace H : (calamuslaw11_TreeBack.j2 kj13 a1 (!t354) l0_0 a0_1 t338 t341) = some r := H
              have A102 := Aside0.mk A1020
              clear A1020
              have H' := Aside0.mk H
              clear H
              have hnb103 := NB329_320.out
              have hnc103 := NB320_329.out
              have hnb104 := NB329_343.out
              have hnc104 := NB343_329.out
              have hnb105 := NB329_351.out
              have hnc105 := NB351_329.out
              obtain ⟨hcz106_0, hcz106_1, hfz106_0, hfz106_1⟩ := bc2_ BK329
              go_wp2_with (first | ((with_reducible refine gate_callee (f := 36) rfl ?_); refine ge_ (some 87) rfl rfl Try.func36 (by kernel_rfl) rfl #[.agg #[.slice Ao18 t323.length co18, .int .i64 t326]] rfl (h := ?_); (with_reducible refine (tree_Right.calls kj13 _ _ t323 t326 true _ ?side1 ?side2 A82.out).mono ?_); (case side1 => refine (Kd.R_reads' (e := 69) (base := w.heap.size) (ok := fun k_ => ((True ∧ some k_ ≠ (.slice Ao71 t338.length co71 : Value).ownBlock) ∧ some k_ ≠ (.slice Ao77 t346.length co77 : Value).ownBlock)) (n := t323.length) (c := co18) ?_).2.2; exact (by (with_reducible repeat (first | apply Kd.R_alloc | apply Kd.R_drewN | apply Kd.R_drew)); exact (Kd.R_mono (rf_ (Kd.R_types HO_330000.out BK351.out (by decide)) (fun _ hk => hk.2)) (fun _ h_ => h_.1)))); (case side2 => exact (Kd.R_reads' HO_330000.out).2.1); rintro e w107 ⟨rfl, hb⟩; refine ⟨_, rfl, ?_⟩; replace HO_330000 := Aside0.mk (Kd.R_below (by (with_reducible repeat (first | apply Kd.R_alloc | apply Kd.R_drewN | apply Kd.R_drew)); exact (Kd.R_mono (rf_ (Kd.R_types HO_330000.out BK351.out (by decide)) (fun _ hk => hk.2)) (fun _ h_ => h_.1))) hb); replace HO340 := Aside0.mk (Kd.R_below (by (with_reducible repeat (first | apply Kd.R_alloc | apply Kd.R_drewN | apply Kd.R_drew)); exact (Kd.R_mono (rf_ (Kd.R_types HO340.out BK351.out (by decide)) (fun _ hk => hk.2)) (fun _ h_ => h_.1))) hb); replace HO348 := Aside0.mk (Kd.R_below (by (with_reducible repeat (first | apply Kd.R_alloc | apply Kd.R_drewN | apply Kd.R_drew)); exact (Kd.R_mono (rf_ (Kd.R_types HO348.out BK351.out (by decide)) (fun _ hk => hk.2)) (fun _ h_ => h_.1))) hb); replace BK320 := Aside0.mk (blk_below (g := gb320) (o := .cells #[.slice A0_0 l0_0.length c0_0, .int .i64 a0_1] 46 (0, 0)) (bp_ BK320.out) hb); replace BK329 := Aside0.mk (blk_below (g := gb329) (o := .cells #[.slice Ao18 t323.length co18, .int .i64 t326] 46 (0, 0)) (bp_ BK329.out) hb); replace BK343 := Aside0.mk (blk_below (g := gb343) (o := .cells #[.slice Ao71 t338.length co71, .int .i64 t341] 46 (0, 0)) (bp_ BK343.out) hb); replace HB := bs_ HB hb; replace BK351 := Aside0.mk (blk_below (g := gb351) (o := .cells #[.slice Ao77 t346.length co77, .int .i64 t349] 46 (0, 0)) (bp_ BK351.out) hb); (try clear hb); (try clear hb2); (try clear hk); (try clear hi); have hnb108 := NB343_320.out; have hnc108 := NB320_343.out; have hnb109 := NB343_351.out; have hnc109 := NB351_343.out; obtain ⟨hcz110_0, hcz110_1, hfz110_0, hfz110_1⟩ := bc2_ BK343) | (go_at_call 36; (with_reducible refine (tree_Right.calls kj13 _ _ t338 t341 true _ ?side1 ?side2 A84.out).mono ?_); (case side1 => repeat (first | exact (Kd.R_reads' HO340.out).2.2 | (with_reducible refine Kd.C_alloc ?_ _) | (with_reducible refine Kd.C_drewN ?_ _) | (with_reducible refine Kd.C_drew ?_))); (case side2 => exact (Kd.R_reads' HO340.out).2.1); rintro e w111 ⟨rfl, hb⟩; replace HO_330000 := Aside0.mk (Kd.R_below (rw_ HO_330000.out) hb); replace HO340 := Aside0.mk (Kd.R_below (rw_ HO340.out) hb); replace HO348 := Aside0.mk (Kd.R_below (rw_ HO348.out) hb); replace BK320 := bb_ BK320 hb; replace BK329 := bb_ BK329 hb; replace BK343 := bb_ BK343 hb; replace BK351 := bb_ BK351 hb; replace HB := bs_ HB hb; (try clear hb); (try clear hb2); (try clear hk); (try clear hi); obtain ⟨hcz112_0, hcz112_1, hfz112_0, hfz112_1⟩ := bc2_ BK343; have hnb113 := NB320_351.out; have hnc113 := NB351_320.out; obtain ⟨hcz114_0, hcz114_1, hfz114_0, hfz114_1⟩ := bc2_ BK320; obtain ⟨hcz115_0, hcz115_1, hfz115_0, hfz115_1⟩ := bc2_ BK351) | (go_at_call 36; (with_reducible refine (tree_Right.calls kj13 _ _ t346 t349 t354 _ ?side1 ?side2 A102.out).mono ?_); (case side1 => repeat (first | exact (Kd.R_reads' HO348.out).2.2 | (with_reducible refine Kd.C_alloc ?_ _) | (with_reducible refine Kd.C_drewN ?_ _) | (with_reducible refine Kd.C_drew ?_))); (case side2 => exact (Kd.R_reads' HO348.out).2.1); rintro e w116 ⟨rfl, hb⟩; replace HO_330000 := Aside0.mk (Kd.R_below (rw_ HO_330000.out) hb); replace HO340 := Aside0.mk (Kd.R_below (rw_ HO340.out) hb); replace HO348 := Aside0.mk (Kd.R_below (rw_ HO348.out) hb); replace BK320 := bb_ BK320 hb; replace BK329 := bb_ BK329 hb; replace BK343 := bb_ BK343 hb; replace BK351 := bb_ BK351 hb; replace HB := bs_ HB hb; (try clear hb); (try clear hb2); (try clear hk); (try clear hi)))
              go_meet
              case rel => exact ⟨_, (!t354), es_, H', ⟨by have := HJ2.out; have := HJ13.out; first | omega | exact Nat.le_refl _⟩, ⟨by (with_reducible repeat (first | apply Kd.R_alloc | apply Kd.R_drewN | apply Kd.R_drew)); exact Kd.R_mono HO_330000.out (fun _ hk => ⟨hk.1.2, hk.2⟩)⟩, ⟨by (with_reducible repeat (first | apply Kd.R_alloc | apply Kd.R_drewN | apply Kd.R_drew)); exact Kd.R_mono HO340.out (fun _ hk => ⟨hk.1.2, hk.2⟩)⟩, ⟨by (with_reducible repeat (first | apply Kd.R_alloc | apply Kd.R_drewN | apply Kd.R_drew)); exact Kd.R_mono HO348.out (fun _ hk => ⟨hk.1.2, hk.2⟩)⟩, ⟨bw_ BK320.out⟩, ⟨bw_ BK329.out⟩, ⟨bw_ BK343.out⟩, ⟨bw_ BK351.out⟩, ⟨hb_ HB⟩⟩
             ·rw [if_neg c101] at H
              have c101b0 : (t350 == 0) = false := beq_eq_false_iff_ne.mpr c101
              have c101b1 : (t350 != 0) = true := bne_iff_ne.mpr c101
              have hz_ : decide (0 < a1) = false := by have h_ := c88b0; rw [c101b0] at h_; simpa using h_
              have H' := Aside0.mk H
              clear H
              have hnb117 := NB329_320.out
              have hnc117 := NB320_329.out
              have hnb118 := NB329_343.out
              have hnc118 := NB343_329.out
              have hnb119 := NB329_351.out
              have hnc119 := NB351_329.out
              obtain ⟨hcz120_0, hcz120_1, hfz120_0, hfz120_1⟩ := bc2_ BK329
              go_wp2_with (first | ((with_reducible refine gate_callee (f := 36) rfl ?_); refine ge_ (some 87) rfl rfl Try.func36 (by kernel_rfl) rfl #[.agg #[.slice Ao18 t323.length co18, .int .i64 t326]] rfl (h := ?_); (with_reducible refine (tree_Right.calls kj13 _ _ t323 t326 true _ ?side1 ?side2 A82.out).mono ?_); (case side1 => refine (Kd.R_reads' (e := 69) (base := w.heap.size) (ok := fun k_ => ((True ∧ some k_ ≠ (.slice Ao71 t338.length co71 : Value).ownBlock) ∧ some k_ ≠ (.slice Ao77 t346.length co77 : Value).ownBlock)) (n := t323.length) (c := co18) ?_).2.2; exact (by (with_reducible repeat (first | apply Kd.R_alloc | apply Kd.R_drewN | apply Kd.R_drew)); exact (Kd.R_mono (rf_ (Kd.R_types HO_330000.out BK351.out (by decide)) (fun _ hk => hk.2)) (fun _ h_ => h_.1)))); (case side2 => exact (Kd.R_reads' HO_330000.out).2.1); rintro e w121 ⟨rfl, hb⟩; refine ⟨_, rfl, ?_⟩; replace HO_330000 := Aside0.mk (Kd.R_below (by (with_reducible repeat (first | apply Kd.R_alloc | apply Kd.R_drewN | apply Kd.R_drew)); exact (Kd.R_mono (rf_ (Kd.R_types HO_330000.out BK351.out (by decide)) (fun _ hk => hk.2)) (fun _ h_ => h_.1))) hb); replace HO340 := Aside0.mk (Kd.R_below (by (with_reducible repeat (first | apply Kd.R_alloc | apply Kd.R_drewN | apply Kd.R_drew)); exact (Kd.R_mono (rf_ (Kd.R_types HO340.out BK351.out (by decide)) (fun _ hk => hk.2)) (fun _ h_ => h_.1))) hb); replace HO348 := Aside0.mk (Kd.R_below (by (with_reducible repeat (first | apply Kd.R_alloc | apply Kd.R_drewN | apply Kd.R_drew)); exact (Kd.R_mono (rf_ (Kd.R_types HO348.out BK351.out (by decide)) (fun _ hk => hk.2)) (fun _ h_ => h_.1))) hb); replace BK320 := Aside0.mk (blk_below (g := gb320) (o := .cells #[.slice A0_0 l0_0.length c0_0, .int .i64 a0_1] 46 (0, 0)) (bp_ BK320.out) hb); replace BK329 := Aside0.mk (blk_below (g := gb329) (o := .cells #[.slice Ao18 t323.length co18, .int .i64 t326] 46 (0, 0)) (bp_ BK329.out) hb); replace BK343 := Aside0.mk (blk_below (g := gb343) (o := .cells #[.slice Ao71 t338.length co71, .int .i64 t341] 46 (0, 0)) (bp_ BK343.out) hb); replace HB := bs_ HB hb; replace BK351 := Aside0.mk (blk_below (g := gb351) (o := .cells #[.slice Ao77 t346.length co77, .int .i64 t349] 46 (0, 0)) (bp_ BK351.out) hb); (try clear hb); (try clear hb2); (try clear hk); (try clear hi); have hnb122 := NB343_320.out; have hnc122 := NB320_343.out; have hnb123 := NB343_351.out; have hnc123 := NB351_343.out; obtain ⟨hcz124_0, hcz124_1, hfz124_0, hfz124_1⟩ := bc2_ BK343) | (go_at_call 36; (with_reducible refine (tree_Right.calls kj13 _ _ t338 t341 true _ ?side1 ?side2 A84.out).mono ?_); (case side1 => repeat (first | exact (Kd.R_reads' HO340.out).2.2 | (with_reducible refine Kd.C_alloc ?_ _) | (with_reducible refine Kd.C_drewN ?_ _) | (with_reducible refine Kd.C_drew ?_))); (case side2 => exact (Kd.R_reads' HO340.out).2.1); rintro e w125 ⟨rfl, hb⟩; replace HO_330000 := Aside0.mk (Kd.R_below (rw_ HO_330000.out) hb); replace HO340 := Aside0.mk (Kd.R_below (rw_ HO340.out) hb); replace HO348 := Aside0.mk (Kd.R_below (rw_ HO348.out) hb); replace BK320 := bb_ BK320 hb; replace BK329 := bb_ BK329 hb; replace BK343 := bb_ BK343 hb; replace BK351 := bb_ BK351 hb; replace HB := bs_ HB hb; (try clear hb); (try clear hb2); (try clear hk); (try clear hi); obtain ⟨hcz126_0, hcz126_1, hfz126_0, hfz126_1⟩ := bc2_ BK343; have hnb127 := NB320_351.out; have hnc127 := NB351_320.out; obtain ⟨hcz128_0, hcz128_1, hfz128_0, hfz128_1⟩ := bc2_ BK320))
              go_meet
              case rel => exact ⟨_, (false), es_, H', ⟨by have := HJ2.out; have := HJ13.out; first | omega | exact Nat.le_refl _⟩, ⟨by (with_reducible repeat (first | apply Kd.R_alloc | apply Kd.R_drewN | apply Kd.R_drew)); exact Kd.R_mono HO_330000.out (fun _ hk => ⟨hk.1.2, hk.2⟩)⟩, ⟨by (with_reducible repeat (first | apply Kd.R_alloc | apply Kd.R_drewN | apply Kd.R_drew)); exact Kd.R_mono HO340.out (fun _ hk => ⟨hk.1.2, hk.2⟩)⟩, ⟨by (with_reducible repeat (first | apply Kd.R_alloc | apply Kd.R_drewN | apply Kd.R_drew)); exact Kd.R_mono HO348.out (fun _ hk => ⟨hk.1.2, hk.2⟩)⟩, ⟨bw_ BK320.out⟩, ⟨bw_ BK329.out⟩, ⟨bw_ BK343.out⟩, ⟨bw_ BK351.out⟩, ⟨hb_ HB⟩⟩
           ·rw [if_neg c87] at H
            have c87b0 : ((t338.length : Int) == (l0_0.length : Int)) = false := beq_eq_false_iff_ne.mpr c87
            have c87b1 : ((t338.length : Int) != (l0_0.length : Int)) = true := bne_iff_ne.mpr c87
            have c87b2 : (t338.length == l0_0.length) = false := by first | simpa using c87 | (simp at c87 ⊢; omega)
            have H' := Aside0.mk H
            clear H
            have hnb129 := NB329_320.out
            have hnc129 := NB320_329.out
            have hnb130 := NB329_343.out
            have hnc130 := NB343_329.out
            have hnb131 := NB329_351.out
            have hnc131 := NB351_329.out
            obtain ⟨hcz132_0, hcz132_1, hfz132_0, hfz132_1⟩ := bc2_ BK329
            go_wp2_with (first | ((with_reducible refine gate_callee (f := 36) rfl ?_); refine ge_ (some 87) rfl rfl Try.func36 (by kernel_rfl) rfl #[.agg #[.slice Ao18 t323.length co18, .int .i64 t326]] rfl (h := ?_); (with_reducible refine (tree_Right.calls kj13 _ _ t323 t326 true _ ?side1 ?side2 A82.out).mono ?_); (case side1 => refine (Kd.R_reads' (e := 69) (base := w.heap.size) (ok := fun k_ => ((True ∧ some k_ ≠ (.slice Ao71 t338.length co71 : Value).ownBlock) ∧ some k_ ≠ (.slice Ao77 t346.length co77 : Value).ownBlock)) (n := t323.length) (c := co18) ?_).2.2; exact (by (with_reducible repeat (first | apply Kd.R_alloc | apply Kd.R_drewN | apply Kd.R_drew)); exact (Kd.R_mono (rf_ (Kd.R_types HO_330000.out BK351.out (by decide)) (fun _ hk => hk.2)) (fun _ h_ => h_.1)))); (case side2 => exact (Kd.R_reads' HO_330000.out).2.1); rintro e w133 ⟨rfl, hb⟩; refine ⟨_, rfl, ?_⟩; replace HO_330000 := Aside0.mk (Kd.R_below (by (with_reducible repeat (first | apply Kd.R_alloc | apply Kd.R_drewN | apply Kd.R_drew)); exact (Kd.R_mono (rf_ (Kd.R_types HO_330000.out BK351.out (by decide)) (fun _ hk => hk.2)) (fun _ h_ => h_.1))) hb); replace HO340 := Aside0.mk (Kd.R_below (by (with_reducible repeat (first | apply Kd.R_alloc | apply Kd.R_drewN | apply Kd.R_drew)); exact (Kd.R_mono (rf_ (Kd.R_types HO340.out BK351.out (by decide)) (fun _ hk => hk.2)) (fun _ h_ => h_.1))) hb); replace HO348 := Aside0.mk (Kd.R_below (by (with_reducible repeat (first | apply Kd.R_alloc | apply Kd.R_drewN | apply Kd.R_drew)); exact (Kd.R_mono (rf_ (Kd.R_types HO348.out BK351.out (by decide)) (fun _ hk => hk.2)) (fun _ h_ => h_.1))) hb); replace BK320 := Aside0.mk (blk_below (g := gb320) (o := .cells #[.slice A0_0 l0_0.length c0_0, .int .i64 a0_1] 46 (0, 0)) (bp_ BK320.out) hb); replace BK329 := Aside0.mk (blk_below (g := gb329) (o := .cells #[.slice Ao18 t323.length co18, .int .i64 t326] 46 (0, 0)) (bp_ BK329.out) hb); replace BK343 := Aside0.mk (blk_below (g := gb343) (o := .cells #[.slice Ao71 t338.length co71, .int .i64 t341] 46 (0, 0)) (bp_ BK343.out) hb); replace HB := bs_ HB hb; replace BK351 := Aside0.mk (blk_below (g := gb351) (o := .cells #[.slice Ao77 t346.length co77, .int .i64 t349] 46 (0, 0)) (bp_ BK351.out) hb); (try clear hb); (try clear hb2); (try clear hk); (try clear hi); have hnb134 := NB343_320.out; have hnc134 := NB320_343.out; have hnb135 := NB343_351.out; have hnc135 := NB351_343.out; obtain ⟨hcz136_0, hcz136_1, hfz136_0, hfz136_1⟩ := bc2_ BK343) | (go_at_call 36; (with_reducible refine (tree_Right.calls kj13 _ _ t338 t341 true _ ?side1 ?side2 A84.out).mono ?_); (case side1 => repeat (first | exact (Kd.R_reads' HO340.out).2.2 | (with_reducible refine Kd.C_alloc ?_ _) | (with_reducible refine Kd.C_drewN ?_ _) | (with_reducible refine Kd.C_drew ?_))); (case side2 => exact (Kd.R_reads' HO340.out).2.1); rintro e w137 ⟨rfl, hb⟩; replace HO_330000 := Aside0.mk (Kd.R_below (rw_ HO_330000.out) hb); replace HO340 := Aside0.mk (Kd.R_below (rw_ HO340.out) hb); replace HO348 := Aside0.mk (Kd.R_below (rw_ HO348.out) hb); replace BK320 := bb_ BK320 hb; replace BK329 := bb_ BK329 hb; replace BK343 := bb_ BK343 hb; replace BK351 := bb_ BK351 hb; replace HB := bs_ HB hb; (try clear hb); (try clear hb2); (try clear hk); (try clear hi); obtain ⟨hcz138_0, hcz138_1, hfz138_0, hfz138_1⟩ := bc2_ BK343; have hnb139 := NB320_351.out; have hnc139 := NB351_320.out; obtain ⟨hcz140_0, hcz140_1, hfz140_0, hfz140_1⟩ := bc2_ BK320))
            go_meet
            case rel => exact ⟨_, (true), es_, H', ⟨by have := HJ2.out; have := HJ13.out; first | omega | exact Nat.le_refl _⟩, ⟨by (with_reducible repeat (first | apply Kd.R_alloc | apply Kd.R_drewN | apply Kd.R_drew)); exact Kd.R_mono HO_330000.out (fun _ hk => ⟨hk.1.2, hk.2⟩)⟩, ⟨by (with_reducible repeat (first | apply Kd.R_alloc | apply Kd.R_drewN | apply Kd.R_drew)); exact Kd.R_mono HO340.out (fun _ hk => ⟨hk.1.2, hk.2⟩)⟩, ⟨by (with_reducible repeat (first | apply Kd.R_alloc | apply Kd.R_drewN | apply Kd.R_drew)); exact Kd.R_mono HO348.out (fun _ hk => ⟨hk.1.2, hk.2⟩)⟩, ⟨bw_ BK320.out⟩, ⟨bw_ BK329.out⟩, ⟨bw_ BK343.out⟩, ⟨bw_ BK351.out⟩, ⟨hb_ HB⟩⟩
          ·rw [if_neg c86] at H
           have c86b0 : (t341 == a1) = false := beq_eq_false_iff_ne.mpr c86
           have c86b1 : (t341 != a1) = true := bne_iff_ne.mpr c86
           (first | rw [c86b0] | (simp only [i64_w, i32_w]; rw [c86b0]) | skip)
           have H' := Aside0.mk H
           clear H
           have hnb141 := NB329_320.out
           have hnc141 := NB320_329.out
           have hnb142 := NB329_343.out
           have hnc142 := NB343_329.out
           have hnb143 := NB329_351.out
           have hnc143 := NB351_329.out
           obtain ⟨hcz144_0, hcz144_1, hfz144_0, hfz144_1⟩ := bc2_ BK329
           go_wp2_with (first | ((with_reducible refine gate_callee (f := 36) rfl ?_); refine ge_ (some 87) rfl rfl Try.func36 (by kernel_rfl) rfl #[.agg #[.slice Ao18 t323.length co18, .int .i64 t326]] rfl (h := ?_); (with_reducible refine (tree_Right.calls kj13 _ _ t323 t326 true _ ?side1 ?side2 A82.out).mono ?_); (case side1 => refine (Kd.R_reads' (e := 69) (base := w.heap.size) (ok := fun k_ => ((True ∧ some k_ ≠ (.slice Ao71 t338.length co71 : Value).ownBlock) ∧ some k_ ≠ (.slice Ao77 t346.length co77 : Value).ownBlock)) (n := t323.length) (c := co18) ?_).2.2; exact (by (with_reducible repeat (first | apply Kd.R_alloc | apply Kd.R_drewN | apply Kd.R_drew)); exact (Kd.R_mono (rf_ (Kd.R_types HO_330000.out BK351.out (by decide)) (fun _ hk => hk.2)) (fun _ h_ => h_.1)))); (case side2 => exact (Kd.R_reads' HO_330000.out).2.1); rintro e w145 ⟨rfl, hb⟩; refine ⟨_, rfl, ?_⟩; replace HO_330000 := Aside0.mk (Kd.R_below (by (with_reducible repeat (first | apply Kd.R_alloc | apply Kd.R_drewN | apply Kd.R_drew)); exact (Kd.R_mono (rf_ (Kd.R_types HO_330000.out BK351.out (by decide)) (fun _ hk => hk.2)) (fun _ h_ => h_.1))) hb); replace HO340 := Aside0.mk (Kd.R_below (by (with_reducible repeat (first | apply Kd.R_alloc | apply Kd.R_drewN | apply Kd.R_drew)); exact (Kd.R_mono (rf_ (Kd.R_types HO340.out BK351.out (by decide)) (fun _ hk => hk.2)) (fun _ h_ => h_.1))) hb); replace HO348 := Aside0.mk (Kd.R_below (by (with_reducible repeat (first | apply Kd.R_alloc | apply Kd.R_drewN | apply Kd.R_drew)); exact (Kd.R_mono (rf_ (Kd.R_types HO348.out BK351.out (by decide)) (fun _ hk => hk.2)) (fun _ h_ => h_.1))) hb); replace BK320 := Aside0.mk (blk_below (g := gb320) (o := .cells #[.slice A0_0 l0_0.length c0_0, .int .i64 a0_1] 46 (0, 0)) (bp_ BK320.out) hb); replace BK329 := Aside0.mk (blk_below (g := gb329) (o := .cells #[.slice Ao18 t323.length co18, .int .i64 t326] 46 (0, 0)) (bp_ BK329.out) hb); replace BK343 := Aside0.mk (blk_below (g := gb343) (o := .cells #[.slice Ao71 t338.length co71, .int .i64 t341] 46 (0, 0)) (bp_ BK343.out) hb); replace HB := bs_ HB hb; replace BK351 := Aside0.mk (blk_below (g := gb351) (o := .cells #[.slice Ao77 t346.length co77, .int .i64 t349] 46 (0, 0)) (bp_ BK351.out) hb); (try clear hb); (try clear hb2); (try clear hk); (try clear hi); have hnb146 := NB343_320.out; have hnc146 := NB320_343.out; have hnb147 := NB343_351.out; have hnc147 := NB351_343.out; obtain ⟨hcz148_0, hcz148_1, hfz148_0, hfz148_1⟩ := bc2_ BK343) | (go_at_call 36; (with_reducible refine (tree_Right.calls kj13 _ _ t338 t341 true _ ?side1 ?side2 A84.out).mono ?_); (case side1 => repeat (first | exact (Kd.R_reads' HO340.out).2.2 | (with_reducible refine Kd.C_alloc ?_ _) | (with_reducible refine Kd.C_drewN ?_ _) | (with_reducible refine Kd.C_drew ?_))); (case side2 => exact (Kd.R_reads' HO340.out).2.1); rintro e w149 ⟨rfl, hb⟩; replace HO_330000 := Aside0.mk (Kd.R_below (rw_ HO_330000.out) hb); replace HO340 := Aside0.mk (Kd.R_below (rw_ HO340.out) hb); replace HO348 := Aside0.mk (Kd.R_below (rw_ HO348.out) hb); replace BK320 := bb_ BK320 hb; replace BK329 := bb_ BK329 hb; replace BK343 := bb_ BK343 hb; replace BK351 := bb_ BK351 hb; replace HB := bs_ HB hb; (try clear hb); (try clear hb2); (try clear hk); (try clear hi); obtain ⟨hcz150_0, hcz150_1, hfz150_0, hfz150_1⟩ := bc2_ BK343))
           go_meet
           case rel => exact ⟨_, (true), es_, H', ⟨by have := HJ2.out; have := HJ13.out; first | omega | exact Nat.le_refl _⟩, ⟨by (with_reducible repeat (first | apply Kd.R_alloc | apply Kd.R_drewN | apply Kd.R_drew)); exact Kd.R_mono HO_330000.out (fun _ hk => ⟨hk.1.2, hk.2⟩)⟩, ⟨by (with_reducible repeat (first | apply Kd.R_alloc | apply Kd.R_drewN | apply Kd.R_drew)); exact Kd.R_mono HO340.out (fun _ hk => ⟨hk.1.2, hk.2⟩)⟩, ⟨by (with_reducible repeat (first | apply Kd.R_alloc | apply Kd.R_drewN | apply Kd.R_drew)); exact Kd.R_mono HO348.out (fun _ hk => ⟨hk.1.2, hk.2⟩)⟩, ⟨bw_ BK320.out⟩, ⟨bw_ BK329.out⟩, ⟨bw_ BK343.out⟩, ⟨bw_ BK351.out⟩, ⟨hb_ HB⟩⟩
         ·replace c85 := Bool.eq_false_iff.mpr c85
          subst c85
          have H1 : (calamuslaw11_TreeBack.j2 kj13 a1 true l0_0 a0_1 t338 t341) = some r := by rw [if_neg (show ¬ (false = true) by decide)] at H; exact H
          clear H
          have H := H1
          clear H1
          have H' := Aside0.mk H
          clear H
          have hnb151 := NB329_320.out
          have hnc151 := NB320_329.out
          have hnb152 := NB329_343.out
          have hnc152 := NB343_329.out
          have hnb153 := NB329_351.out
          have hnc153 := NB351_329.out
          obtain ⟨hcz154_0, hcz154_1, hfz154_0, hfz154_1⟩ := bc2_ BK329
          go_wp2_with (first | ((with_reducible refine gate_callee (f := 36) rfl ?_); refine ge_ (some 87) rfl rfl Try.func36 (by kernel_rfl) rfl #[.agg #[.slice Ao18 t323.length co18, .int .i64 t326]] rfl (h := ?_); (with_reducible refine (tree_Right.calls kj13 _ _ t323 t326 true _ ?side1 ?side2 A82.out).mono ?_); (case side1 => refine (Kd.R_reads' (e := 69) (base := w.heap.size) (ok := fun k_ => ((True ∧ some k_ ≠ (.slice Ao71 t338.length co71 : Value).ownBlock) ∧ some k_ ≠ (.slice Ao77 t346.length co77 : Value).ownBlock)) (n := t323.length) (c := co18) ?_).2.2; exact (by (with_reducible repeat (first | apply Kd.R_alloc | apply Kd.R_drewN | apply Kd.R_drew)); exact (Kd.R_mono (rf_ (Kd.R_types HO_330000.out BK351.out (by decide)) (fun _ hk => hk.2)) (fun _ h_ => h_.1)))); (case side2 => exact (Kd.R_reads' HO_330000.out).2.1); rintro e w155 ⟨rfl, hb⟩; refine ⟨_, rfl, ?_⟩; replace HO_330000 := Aside0.mk (Kd.R_below (by (with_reducible repeat (first | apply Kd.R_alloc | apply Kd.R_drewN | apply Kd.R_drew)); exact (Kd.R_mono (rf_ (Kd.R_types HO_330000.out BK351.out (by decide)) (fun _ hk => hk.2)) (fun _ h_ => h_.1))) hb); replace HO340 := Aside0.mk (Kd.R_below (by (with_reducible repeat (first | apply Kd.R_alloc | apply Kd.R_drewN | apply Kd.R_drew)); exact (Kd.R_mono (rf_ (Kd.R_types HO340.out BK351.out (by decide)) (fun _ hk => hk.2)) (fun _ h_ => h_.1))) hb); replace HO348 := Aside0.mk (Kd.R_below (by (with_reducible repeat (first | apply Kd.R_alloc | apply Kd.R_drewN | apply Kd.R_drew)); exact (Kd.R_mono (rf_ (Kd.R_types HO348.out BK351.out (by decide)) (fun _ hk => hk.2)) (fun _ h_ => h_.1))) hb); replace BK320 := Aside0.mk (blk_below (g := gb320) (o := .cells #[.slice A0_0 l0_0.length c0_0, .int .i64 a0_1] 46 (0, 0)) (bp_ BK320.out) hb); replace BK329 := Aside0.mk (blk_below (g := gb329) (o := .cells #[.slice Ao18 t323.length co18, .int .i64 t326] 46 (0, 0)) (bp_ BK329.out) hb); replace BK343 := Aside0.mk (blk_below (g := gb343) (o := .cells #[.slice Ao71 t338.length co71, .int .i64 t341] 46 (0, 0)) (bp_ BK343.out) hb); replace HB := bs_ HB hb; replace BK351 := Aside0.mk (blk_below (g := gb351) (o := .cells #[.slice Ao77 t346.length co77, .int .i64 t349] 46 (0, 0)) (bp_ BK351.out) hb); (try clear hb); (try clear hb2); (try clear hk); (try clear hi); have hnb156 := NB343_320.out; have hnc156 := NB320_343.out; have hnb157 := NB343_351.out; have hnc157 := NB351_343.out; obtain ⟨hcz158_0, hcz158_1, hfz158_0, hfz158_1⟩ := bc2_ BK343) | (go_at_call 36; (with_reducible refine (tree_Right.calls kj13 _ _ t338 t341 false _ ?side1 ?side2 A84.out).mono ?_); (case side1 => repeat (first | exact (Kd.R_reads' HO340.out).2.2 | (with_reducible refine Kd.C_alloc ?_ _) | (with_reducible refine Kd.C_drewN ?_ _) | (with_reducible refine Kd.C_drew ?_))); (case side2 => exact (Kd.R_reads' HO340.out).2.1); rintro e w159 ⟨rfl, hb⟩; replace HO_330000 := Aside0.mk (Kd.R_below (rw_ HO_330000.out) hb); replace HO340 := Aside0.mk (Kd.R_below (rw_ HO340.out) hb); replace HO348 := Aside0.mk (Kd.R_below (rw_ HO348.out) hb); replace BK320 := bb_ BK320 hb; replace BK329 := bb_ BK329 hb; replace BK343 := bb_ BK343 hb; replace BK351 := bb_ BK351 hb; replace HB := bs_ HB hb; (try clear hb); (try clear hb2); (try clear hk); (try clear hi)))
          go_meet
          case rel => exact ⟨_, (true), es_, H', ⟨by have := HJ2.out; have := HJ13.out; first | omega | exact Nat.le_refl _⟩, ⟨by (with_reducible repeat (first | apply Kd.R_alloc | apply Kd.R_drewN | apply Kd.R_drew)); exact Kd.R_mono HO_330000.out (fun _ hk => ⟨hk.1.2, hk.2⟩)⟩, ⟨by (with_reducible repeat (first | apply Kd.R_alloc | apply Kd.R_drewN | apply Kd.R_drew)); exact Kd.R_mono HO340.out (fun _ hk => ⟨hk.1.2, hk.2⟩)⟩, ⟨by (with_reducible repeat (first | apply Kd.R_alloc | apply Kd.R_drewN | apply Kd.R_drew)); exact Kd.R_mono HO348.out (fun _ hk => ⟨hk.1.2, hk.2⟩)⟩, ⟨bw_ BK320.out⟩, ⟨bw_ BK329.out⟩, ⟨bw_ BK343.out⟩, ⟨bw_ BK351.out⟩, ⟨hb_ HB⟩⟩
        ·replace c83 := Bool.eq_false_iff.mpr c83
         subst c83
         have H1 : (calamuslaw11_TreeBack.j2 kj13 a1 true l0_0 a0_1 t338 t341) = some r := by rw [if_neg (show ¬ (false = true) by decide)] at H; exact H
         clear H
         have H := H1
         clear H1
         have H' := Aside0.mk H
         clear H
         have hnb160 := NB329_320.out
         have hnc160 := NB320_329.out
         have hnb161 := NB329_343.out
         have hnc161 := NB343_329.out
         have hnb162 := NB329_351.out
         have hnc162 := NB351_329.out
         obtain ⟨hcz163_0, hcz163_1, hfz163_0, hfz163_1⟩ := bc2_ BK329
         go_wp2_with (first | ((with_reducible refine gate_callee (f := 36) rfl ?_); refine ge_ (some 87) rfl rfl Try.func36 (by kernel_rfl) rfl #[.agg #[.slice Ao18 t323.length co18, .int .i64 t326]] rfl (h := ?_); (with_reducible refine (tree_Right.calls kj13 _ _ t323 t326 false _ ?side1 ?side2 A82.out).mono ?_); (case side1 => refine (Kd.R_reads' (e := 69) (base := w.heap.size) (ok := fun k_ => ((True ∧ some k_ ≠ (.slice Ao71 t338.length co71 : Value).ownBlock) ∧ some k_ ≠ (.slice Ao77 t346.length co77 : Value).ownBlock)) (n := t323.length) (c := co18) ?_).2.2; exact (by (with_reducible repeat (first | apply Kd.R_alloc | apply Kd.R_drewN | apply Kd.R_drew)); exact (Kd.R_mono (rf_ (Kd.R_types HO_330000.out BK351.out (by decide)) (fun _ hk => hk.2)) (fun _ h_ => h_.1)))); (case side2 => exact (Kd.R_reads' HO_330000.out).2.1); rintro e w164 ⟨rfl, hb⟩; refine ⟨_, rfl, ?_⟩; replace HO_330000 := Aside0.mk (Kd.R_below (by (with_reducible repeat (first | apply Kd.R_alloc | apply Kd.R_drewN | apply Kd.R_drew)); exact (Kd.R_mono (rf_ (Kd.R_types HO_330000.out BK351.out (by decide)) (fun _ hk => hk.2)) (fun _ h_ => h_.1))) hb); replace HO340 := Aside0.mk (Kd.R_below (by (with_reducible repeat (first | apply Kd.R_alloc | apply Kd.R_drewN | apply Kd.R_drew)); exact (Kd.R_mono (rf_ (Kd.R_types HO340.out BK351.out (by decide)) (fun _ hk => hk.2)) (fun _ h_ => h_.1))) hb); replace HO348 := Aside0.mk (Kd.R_below (by (with_reducible repeat (first | apply Kd.R_alloc | apply Kd.R_drewN | apply Kd.R_drew)); exact (Kd.R_mono (rf_ (Kd.R_types HO348.out BK351.out (by decide)) (fun _ hk => hk.2)) (fun _ h_ => h_.1))) hb); replace BK320 := Aside0.mk (blk_below (g := gb320) (o := .cells #[.slice A0_0 l0_0.length c0_0, .int .i64 a0_1] 46 (0, 0)) (bp_ BK320.out) hb); replace BK329 := Aside0.mk (blk_below (g := gb329) (o := .cells #[.slice Ao18 t323.length co18, .int .i64 t326] 46 (0, 0)) (bp_ BK329.out) hb); replace BK343 := Aside0.mk (blk_below (g := gb343) (o := .cells #[.slice Ao71 t338.length co71, .int .i64 t341] 46 (0, 0)) (bp_ BK343.out) hb); replace HB := bs_ HB hb; replace BK351 := Aside0.mk (blk_below (g := gb351) (o := .cells #[.slice Ao77 t346.length co77, .int .i64 t349] 46 (0, 0)) (bp_ BK351.out) hb); (try clear hb); (try clear hb2); (try clear hk); (try clear hi)))
         go_meet
         case rel => exact ⟨_, (true), es_, H', ⟨by have := HJ2.out; have := HJ13.out; first | omega | exact Nat.le_refl _⟩, ⟨by (with_reducible repeat (first | apply Kd.R_alloc | apply Kd.R_drewN | apply Kd.R_drew)); exact Kd.R_mono HO_330000.out (fun _ hk => ⟨hk.1.2, hk.2⟩)⟩, ⟨by (with_reducible repeat (first | apply Kd.R_alloc | apply Kd.R_drewN | apply Kd.R_drew)); exact Kd.R_mono HO340.out (fun _ hk => ⟨hk.1.2, hk.2⟩)⟩, ⟨by (with_reducible repeat (first | apply Kd.R_alloc | apply Kd.R_drewN | apply Kd.R_drew)); exact Kd.R_mono HO348.out (fun _ hk => ⟨hk.1.2, hk.2⟩)⟩, ⟨bw_ BK320.out⟩, ⟨bw_ BK329.out⟩, ⟨bw_ BK343.out⟩, ⟨bw_ BK351.out⟩, ⟨hb_ HB⟩⟩
       case rest =>
        clear HC66
        try clear c10
        try clear c64
        try clear c64b0
        try clear c64b1
        try clear hcz15_0
        try clear hcz15_1
        try clear hcz20_0
        try clear hcz20_1
        try clear hcz68_0
        try clear hcz68_1
        try clear hcz74_0
        try clear hcz74_1
        try clear hcz81_0
        try clear hcz81_1
        try clear hfz15_0
        try clear hfz15_1
        try clear hfz20_0
        try clear hfz20_1
        try clear hfz68_0
        try clear hfz68_1
        try clear hfz74_0
        try clear hfz74_1
        try clear hfz81_0
        try clear hfz81_1
        obtain ⟨kq, x124_65, rfl, HA, HJ65, HO_330000, HO_344000, HO_352000, BK320, BK329, BK343, BK351, HB⟩ := hcut
        cases kq with
        | zero => exact absurd HA.out (by simp [calamuslaw11_TreeBack.j2])
        | succ kj65 =>
         have H := HA.out
         clear HA
         simp only [calamuslaw11_TreeBack.j2] at H
         by_cases c165 : x124_65 = true
         ·subst c165
          have H1 : (some false) = some r := by rw [if_pos rfl] at H; exact H
          clear H
          have H := H1
          clear H1
          exact nf_ H hr_
         ·replace c165 := Bool.eq_false_iff.mpr c165
          subst c165
          have H1 : (calamuslaw11_TreeBack.l0 kj65 a1 0 l0_0 a0_1 t338 t341 t338 t341) = some r := by rw [if_neg (show ¬ (false = true) by decide)] at H; exact H
          clear H
          have H := H1
          clear H1
          have HC166 := Aside0.mk H
          clear H
          have hnb167 := NB343_320.out
          have hnc167 := NB320_343.out
          have hnb168 := NB343_329.out
          have hnc168 := NB329_343.out
          have hnb169 := NB343_351.out
          have hnc169 := NB351_343.out
          obtain ⟨hcz170_0, hcz170_1, hfz170_0, hfz170_1⟩ := bc2_ BK343
          go_upto_block 0 with (first | ((with_reducible refine gate_dst (N := 15) rfl ?_); (try (refine gate_guard (by rfl) ?_; dsimp only)); refine be_ (N := 15) (cs := #[.slice none 0 0, .int .i64 0]) (t := 46) (h := ?_); intro gb355 hg w171 hbox hb; have BK355 := Aside0.mk (hbox); have GW355 := gw_ HB hg; have GE355 := gw_ HB hg; have NB320_355 := ne_ BK320 hg; have NB355_320 := en_ BK320 hg; have NB329_355 := ne_ BK329 hg; have NB355_329 := en_ BK329 hg; have NB343_355 := ne_ BK343 hg; have NB355_343 := en_ BK343 hg; have NB351_355 := ne_ BK351 hg; have NB355_351 := en_ BK351 hg; replace HO_330000 := Aside0.mk (Kd.R_below (rw_ HO_330000.out) hb); replace HO_344000 := Aside0.mk (Kd.R_below (rw_ HO_344000.out) hb); replace HO_352000 := Aside0.mk (Kd.R_below (rw_ HO_352000.out) hb); replace BK320 := bb_ BK320 hb; replace BK329 := bb_ BK329 hb; replace BK343 := bb_ BK343 hb; replace BK351 := bb_ BK351 hb; replace HB := bs_ HB hb; clear hb hbox hg; have hnb172 := NB355_320.out; have hnc172 := NB320_355.out; have hnb173 := NB355_329.out; have hnc173 := NB329_355.out; have hnb174 := NB355_343.out; have hnc174 := NB343_355.out; have hnb175 := NB355_351.out; have hnc175 := NB351_355.out; obtain ⟨hcz176_0, hcz176_1, hfz176_0, hfz176_1⟩ := bc2_ BK355))
          (try simp only [Act.put, List.setIfInBounds_toArray, List.set_cons_zero, List.set_cons_succ])
          go_cut [] (fun wc => ∃ (kq : Nat) (x356000_165 : List (S69)) (x356001_165 : Int) (u356000 : Value), Aside0 (calamuslaw11_TreeBack.j4 kq a1 l0_0 a0_1 t338 t341 x356000_165 x356001_165 = some r) ∧ Aside0 (kq ≤ kj65) ∧ Aside0 (Kd.R k69 69 wc w.heap.size (fun k_ => some k_ ≠ ((.slice Ao71 t338.length co71) : Value).ownBlock ∧ some k_ ≠ ((.slice Ao77 t346.length co77) : Value).ownBlock ∧ some k_ ≠ (u356000 : Value).ownBlock) (.slice Ao18 t323.length co18) t323) ∧ Aside0 (Kd.R k69 69 wc w.heap.size (fun k_ => some k_ ≠ ((.slice Ao18 t323.length co18) : Value).ownBlock ∧ some k_ ≠ ((.slice Ao77 t346.length co77) : Value).ownBlock) (.slice Ao71 t338.length co71) t338) ∧ Aside0 (Kd.R k69 69 wc w.heap.size (fun k_ => some k_ ≠ ((.slice Ao18 t323.length co18) : Value).ownBlock ∧ some k_ ≠ ((.slice Ao71 t338.length co71) : Value).ownBlock ∧ some k_ ≠ (u356000 : Value).ownBlock) (.slice Ao77 t346.length co77) t346) ∧ Aside0 (Kd.R k69 69 wc w.heap.size (fun k_ => some k_ ≠ ((.slice Ao18 t323.length co18) : Value).ownBlock ∧ some k_ ≠ ((.slice Ao77 t346.length co77) : Value).ownBlock) u356000 x356000_165) ∧ Aside0 (wc.heap[gb320]? = some (.cells #[(.slice A0_0 l0_0.length c0_0), .int .i64 a0_1] 46 (0, 0))) ∧ Aside0 (wc.heap[gb329]? = some (.cells #[(.slice Ao18 t323.length co18), .int .i64 t326] 46 (0, 0))) ∧ Aside0 (wc.heap[gb343]? = some (.cells #[(.slice Ao71 t338.length co71), .int .i64 t341] 46 (0, 0))) ∧ Aside0 (wc.heap[gb351]? = some (.cells #[(.slice Ao77 t346.length co77), .int .i64 t349] 46 (0, 0))) ∧ Aside0 (wc.heap[gb355]? = some (.cells #[u356000, .int .i64 x356001_165] 46 (0, 0))) ∧ Aside0 (Below w.heap.size w wc))
          case first =>
           have H := HC166.out
           clear HC166
           have H' := Aside0.mk H
           clear H
           go_wp2
           go_loopg [16] kj65 (fun kq v16 w' => ∃ (x16_4 : Int) (x356000_4 : List (S69)) (x356001_4 : Int) (u356000 : Value), v16 = .int .i64 x16_4 ∧ Aside0 (calamuslaw11_TreeBack.l0 kq a1 x16_4 l0_0 a0_1 t338 t341 x356000_4 x356001_4 = some r) ∧ Aside0 (kq ≤ kj65) ∧ Aside0 (Kd.R k69 69 w' w.heap.size (fun k_ => some k_ ≠ ((.slice Ao71 t338.length co71) : Value).ownBlock ∧ some k_ ≠ ((.slice Ao77 t346.length co77) : Value).ownBlock ∧ some k_ ≠ (u356000 : Value).ownBlock) (.slice Ao18 t323.length co18) t323) ∧ Aside0 (Kd.R k69 69 w' w.heap.size (fun k_ => some k_ ≠ ((.slice Ao18 t323.length co18) : Value).ownBlock ∧ some k_ ≠ ((.slice Ao77 t346.length co77) : Value).ownBlock) (.slice Ao71 t338.length co71) t338) ∧ Aside0 (Kd.R k69 69 w' w.heap.size (fun k_ => some k_ ≠ ((.slice Ao18 t323.length co18) : Value).ownBlock ∧ some k_ ≠ ((.slice Ao71 t338.length co71) : Value).ownBlock ∧ some k_ ≠ (u356000 : Value).ownBlock) (.slice Ao77 t346.length co77) t346) ∧ Aside0 (Kd.R k69 69 w' w.heap.size (fun k_ => some k_ ≠ ((.slice Ao18 t323.length co18) : Value).ownBlock ∧ some k_ ≠ ((.slice Ao77 t346.length co77) : Value).ownBlock) u356000 x356000_4) ∧ Aside0 (w'.heap[gb320]? = some (.cells #[(.slice A0_0 l0_0.length c0_0), .int .i64 a0_1] 46 (0, 0))) ∧ Aside0 (w'.heap[gb329]? = some (.cells #[(.slice Ao18 t323.length co18), .int .i64 t326] 46 (0, 0))) ∧ Aside0 (w'.heap[gb343]? = some (.cells #[(.slice Ao71 t338.length co71), .int .i64 t341] 46 (0, 0))) ∧ Aside0 (w'.heap[gb351]? = some (.cells #[(.slice Ao77 t346.length co77), .int .i64 t349] 46 (0, 0))) ∧ Aside0 (w'.heap[gb355]? = some (.cells #[u356000, .int .i64 x356001_4] 46 (0, 0))) ∧ Aside0 (Below w.heap.size w w'))
           case atStart => exact ⟨(0), (t338), (t341), (.slice Ao71 t338.length co71), es_, H', ⟨Nat.le_refl _⟩, ⟨by (with_reducible repeat (first | apply Kd.R_alloc | apply Kd.R_drewN | apply Kd.R_drew)); exact Kd.R_mono (rf_ (Kd.R_types HO_330000.out BK355.out (by decide)) (fun _ hk => hk.2)) (fun _ hk => ⟨hk.1.1, ⟨hk.1.2, hk.1.1⟩⟩)⟩, ⟨by (with_reducible repeat (first | apply Kd.R_alloc | apply Kd.R_drewN | apply Kd.R_drew)); exact Kd.R_mono (rf_ (Kd.R_types HO_344000.out BK355.out (by decide)) (fun _ hk => hk.2)) (fun _ hk => ⟨hk.1.1, hk.1.2⟩)⟩, ⟨by (with_reducible repeat (first | apply Kd.R_alloc | apply Kd.R_drewN | apply Kd.R_drew)); exact Kd.R_mono (rf_ (Kd.R_types HO_352000.out BK355.out (by decide)) (fun _ hk => hk.2)) (fun _ hk => ⟨hk.1.1, ⟨hk.1.2, hk.1.2⟩⟩)⟩, ⟨by (with_reducible repeat (first | apply Kd.R_alloc | apply Kd.R_drewN | apply Kd.R_drew)); exact Kd.R_mono (rf_ (Kd.R_types HO_344000.out BK355.out (by decide)) (fun _ hk => hk.2)) (fun _ hk => ⟨hk.1.1, hk.1.2⟩)⟩, ⟨bp_ BK320.out⟩, ⟨bp_ BK329.out⟩, ⟨bp_ BK343.out⟩, ⟨bp_ BK351.out⟩, ⟨bp_ BK355.out⟩, ⟨hb_ HB⟩⟩
           case round =>
            clear H'
            try clear c10
            try clear c64
            try clear c64b0
            try clear c64b1
            try clear c165
            try clear hcz15_0
            try clear hcz15_1
            try clear hcz170_0
            try clear hcz170_1
            try clear hcz176_0
            try clear hcz176_1
            try clear hcz20_0
            try clear hcz20_1
            try clear hcz68_0
            try clear hcz68_1
            try clear hcz74_0
            try clear hcz74_1
            try clear hcz81_0
            try clear hcz81_1
            try clear hfz15_0
            try clear hfz15_1
            try clear hfz170_0
            try clear hfz170_1
            try clear hfz176_0
            try clear hfz176_1
            try clear hfz20_0
            try clear hfz20_1
            try clear hfz68_0
            try clear hfz68_1
            try clear hfz74_0
            try clear hfz74_1
            try clear hfz81_0
            try clear hfz81_1
            obtain ⟨x16_4, x356000_4, x356001_4, u356000, rfl, HA, HK4, HO_330000, HO_344000, HO_352000, HO_356000, BK320, BK329, BK343, BK351, BK355, HB⟩ := hrel
            cases gk with
            | zero => exact absurd HA.out (by simp [calamuslaw11_TreeBack.l0])
            | succ k4 =>
             have H := HA.out
             clear HA
             simp only [calamuslaw11_TreeBack.l0] at H
             by_cases c177 : x16_4 < (l0_0.length : Int)
             ·rw [if_pos c177] at H
              have c177b0 : decide (x16_4 < (l0_0.length : Int)) = true := decide_eq_true c177
              clear c177
              (first | rw [c177b0] | (simp only [i64_w, i32_w]; rw [c177b0]) | skip)
              replace H := Option.bind_eq_some_iff.mp H
              obtain ⟨⟨t356, t359, t360, t361⟩, A1780, H⟩ := H
              replace H : (if t361 = true then (calamuslaw11_TreeBack.l0 k4 a1 (wrap64 (x16_4 + 1)) l0_0 a0_1 t338 t341 t356 t359) else (calamuslaw11_TreeBack.j4 k4 a1 l0_0 a0_1 t338 t341 x356000_4 x356001_4)) = some r := H
              have A178 := Aside0.mk A1780
              clear A1780
              by_cases c179 : t361 = true
              ·subst c179
               have H1 : (calamuslaw11_TreeBack.l0 k4 a1 (wrap64 (x16_4 + 1)) l0_0 a0_1 t338 t341 t356 t359) = some r := by rw [if_pos rfl] at H; exact H
               clear H
               have H := H1
               clear H1
               have H' := Aside0.mk H
               clear H
               have hnb180 := NB320_329.out
               have hnc180 := NB329_320.out
               have hnb181 := NB320_343.out
               have hnc181 := NB343_320.out
               have hnb182 := NB320_351.out
               have hnc182 := NB351_320.out
               have hnb183 := NB320_355.out
               have hnc183 := NB355_320.out
               obtain ⟨hcz184_0, hcz184_1, hfz184_0, hfz184_1⟩ := bc2_ BK320
               have hnb185 := NB355_329.out
               have hnc185 := NB329_355.out
               have hnb186 := NB355_343.out
               have hnc186 := NB343_355.out
               have hnb187 := NB355_351.out
               have hnc187 := NB351_355.out
               obtain ⟨hcz188_0, hcz188_1, hfz188_0, hfz188_1⟩ := bc2_ BK355
               obtain ⟨Ao189, co189, eo189⟩ := Kd.R_slice HO_356000.out
               subst eo189
               go_wp2_with (first | ((with_reducible refine gate_callee (f := 42) rfl ?_); refine ge_ (some 135) rfl rfl Try.func42 (by kernel_rfl) rfl #[.agg #[.slice Ao189 x356000_4.length co189, .int .i64 x356001_4]] rfl (h := ?_); (with_reducible refine (tree_Undo.calls k4 _ _ x356000_4 x356001_4 t356 t359 t360 true _ ?side1 ?side2 A178.out).mono ?_); (case side1 => repeat (first | exact (Kd.R_reads' HO_356000.out).2.2 | (with_reducible refine Kd.C_alloc ?_ _) | (with_reducible refine Kd.C_drewN ?_ _) | (with_reducible refine Kd.C_drew ?_))); (case side2 => exact (Kd.R_reads' HO_356000.out).2.1); rintro e w190 ⟨v357, rfl, ho0, hb⟩; refine ⟨_, rfl, ?_⟩; have HO358 := Aside0.mk (Kd.R_lower (Kd.R_new' (Kd.R_new' (Kd.R_new' (Kd.R_new' ho0 (Kd.R_lt (rw_ HO_330000.out))) (Kd.R_lt (rw_ HO_344000.out))) (Kd.R_lt (rw_ HO_352000.out))) (Kd.R_lt (rw_ HO_356000.out))) (below_size (hb_ HB))); replace HO_330000 := Aside0.mk (Kd.R_elder' (rw_ HO_330000.out) (Kd.R_base ho0) hb); replace HO_344000 := Aside0.mk (Kd.R_elder' (rw_ HO_344000.out) (Kd.R_base ho0) hb); replace HO_352000 := Aside0.mk (Kd.R_elder' (rw_ HO_352000.out) (Kd.R_base ho0) hb); replace HO_356000 := Aside0.mk (Kd.R_elder' (rw_ HO_356000.out) (Kd.R_base ho0) hb); replace BK320 := bb_ BK320 hb; replace BK329 := bb_ BK329 hb; replace BK343 := bb_ BK343 hb; replace BK351 := bb_ BK351 hb; replace BK355 := bb_ BK355 hb; replace HB := bs_ HB hb; (try clear hb); (try clear hb2); (try clear hk); (try clear hi); (try clear ho0)) | ((with_reducible refine gate_dst (N := 17) rfl ?_); (try (refine gate_guard (by rfl) ?_; dsimp only)); refine be_ (N := 17) (cs := #[.slice none 0 0, .int .i64 0]) (t := 46) (h := ?_); intro gb362 hg w191 hbox hb; have BK362 := Aside0.mk (hbox); have GW362 := gw_ HB hg; have GE362 := gw_ HB hg; have NB320_362 := ne_ BK320 hg; have NB362_320 := en_ BK320 hg; have NB329_362 := ne_ BK329 hg; have NB362_329 := en_ BK329 hg; have NB343_362 := ne_ BK343 hg; have NB362_343 := en_ BK343 hg; have NB351_362 := ne_ BK351 hg; have NB362_351 := en_ BK351 hg; have NB355_362 := ne_ BK355 hg; have NB362_355 := en_ BK355 hg; replace HO_330000 := Aside0.mk (Kd.R_below (rw_ HO_330000.out) hb); replace HO_344000 := Aside0.mk (Kd.R_below (rw_ HO_344000.out) hb); replace HO_352000 := Aside0.mk (Kd.R_below (rw_ HO_352000.out) hb); replace HO_356000 := Aside0.mk (Kd.R_below (rw_ HO_356000.out) hb); replace HO358 := Aside0.mk (Kd.R_below (rw_ HO358.out) hb); replace BK320 := bb_ BK320 hb; replace BK329 := bb_ BK329 hb; replace BK343 := bb_ BK343 hb; replace BK351 := bb_ BK351 hb; replace BK355 := bb_ BK355 hb; replace HB := bs_ HB hb; clear hb hbox hg; obtain ⟨Ao192, co192, eo192⟩ := Kd.R_slice HO358.out; subst eo192; have hnb193 := NB362_320.out; have hnc193 := NB320_362.out; have hnb194 := NB362_329.out; have hnc194 := NB329_362.out; have hnb195 := NB362_343.out; have hnc195 := NB343_362.out; have hnb196 := NB362_351.out; have hnc196 := NB351_362.out; have hnb197 := NB362_355.out; have hnc197 := NB355_362.out; obtain ⟨hcz198_0, hcz198_1, hfz198_0, hfz198_1⟩ := bc2_ BK362; obtain ⟨hcz199_0, hcz199_1, hfz199_0, hfz199_1⟩ := bc2_ BK355))
               go_roundg k4
               case measure => have := HJ2.out; have := HJ13.out; have := HJ65.out; have := HK4.out; omega
               case rel => exact ⟨(wrap64 (x16_4 + 1)), (t356), (t359), (.slice Ao192 t356.length co192), es_, H', ⟨by have := HJ2.out; have := HJ13.out; have := HJ65.out; have := HK4.out; omega⟩, ⟨by (with_reducible repeat (first | apply Kd.R_alloc | apply Kd.R_drewN | apply Kd.R_drew)); exact Kd.R_mono (rf_ (Kd.R_far (p := ⟨gb362, 1, none⟩) (Kd.R_far (p := ⟨gb362, 0, none⟩) (Kd.R_types (Kd.R_types HO_330000.out BK362.out (by decide)) BK355.out (by decide)) (fun _ hk => hk.1.2) (.slice Ao192 t356.length co192)) (fun _ hk => hk.1.2) (.int .i64 t359)) (fun _ hk => hk.2)) (fun _ hk => ⟨hk.1.1.1.1, ⟨hk.1.1.1.2.1, hk.1.1.2⟩⟩)⟩, ⟨by (with_reducible repeat (first | apply Kd.R_alloc | apply Kd.R_drewN | apply Kd.R_drew)); exact Kd.R_mono (rf_ (Kd.R_far (p := ⟨gb362, 1, none⟩) (Kd.R_far (p := ⟨gb362, 0, none⟩) (Kd.R_types (Kd.R_types HO_344000.out BK362.out (by decide)) BK355.out (by decide)) (fun _ hk => hk.1.2) (.slice Ao192 t356.length co192)) (fun _ hk => hk.1.2) (.int .i64 t359)) (fun _ hk => hk.2)) (fun _ hk => ⟨hk.1.1.1.1, hk.1.1.1.2⟩)⟩, ⟨by (with_reducible repeat (first | apply Kd.R_alloc | apply Kd.R_drewN | apply Kd.R_drew)); exact Kd.R_mono (rf_ (Kd.R_far (p := ⟨gb362, 1, none⟩) (Kd.R_far (p := ⟨gb362, 0, none⟩) (Kd.R_types (Kd.R_types HO_352000.out BK362.out (by decide)) BK355.out (by decide)) (fun _ hk => hk.1.2) (.slice Ao192 t356.length co192)) (fun _ hk => hk.1.2) (.int .i64 t359)) (fun _ hk => hk.2)) (fun _ hk => ⟨hk.1.1.1.1, ⟨hk.1.1.1.2.1, hk.1.1.2⟩⟩)⟩, ⟨by (with_reducible repeat (first | apply Kd.R_alloc | apply Kd.R_drewN | apply Kd.R_drew)); exact Kd.R_mono (rf_ (Kd.R_far (p := ⟨gb362, 1, none⟩) (Kd.R_far (p := ⟨gb362, 0, none⟩) (Kd.R_types (Kd.R_types HO358.out BK362.out (by decide)) BK355.out (by decide)) (fun _ hk => hk.1.2) (.slice Ao192 t356.length co192)) (fun _ hk => hk.1.2) (.int .i64 t359)) (fun _ hk => hk.2)) (fun _ hk => ⟨hk.1.1.1.1.1.2, hk.1.1.1.2⟩)⟩, ⟨bp_ BK320.out⟩, ⟨bp_ BK329.out⟩, ⟨bp_ BK343.out⟩, ⟨bp_ BK351.out⟩, ⟨bp_ BK355.out⟩, ⟨hb_ HB⟩⟩
              ·replace c179 := Bool.eq_false_iff.mpr c179
               subst c179
               have H1 : (calamuslaw11_TreeBack.j4 k4 a1 l0_0 a0_1 t338 t341 x356000_4 x356001_4) = some r := by rw [if_neg (show ¬ (false = true) by decide)] at H; exact H
               clear H
               have H := H1
               clear H1
               have H' := Aside0.mk H
               clear H
               have hnb200 := NB320_329.out
               have hnc200 := NB329_320.out
               have hnb201 := NB320_343.out
               have hnc201 := NB343_320.out
               have hnb202 := NB320_351.out
               have hnc202 := NB351_320.out
               have hnb203 := NB320_355.out
               have hnc203 := NB355_320.out
               obtain ⟨hcz204_0, hcz204_1, hfz204_0, hfz204_1⟩ := bc2_ BK320
               have hnb205 := NB355_329.out
               have hnc205 := NB329_355.out
               have hnb206 := NB355_343.out
               have hnc206 := NB343_355.out
               have hnb207 := NB355_351.out
               have hnc207 := NB351_355.out
               obtain ⟨hcz208_0, hcz208_1, hfz208_0, hfz208_1⟩ := bc2_ BK355
               obtain ⟨Ao209, co209, eo209⟩ := Kd.R_slice HO_356000.out
               subst eo209
               go_wp2_with (first | ((with_reducible refine gate_callee (f := 42) rfl ?_); refine ge_ (some 135) rfl rfl Try.func42 (by kernel_rfl) rfl #[.agg #[.slice Ao209 x356000_4.length co209, .int .i64 x356001_4]] rfl (h := ?_); (with_reducible refine (tree_Undo.calls k4 _ _ x356000_4 x356001_4 t356 t359 t360 false _ ?side1 ?side2 A178.out).mono ?_); (case side1 => repeat (first | exact (Kd.R_reads' HO_356000.out).2.2 | (with_reducible refine Kd.C_alloc ?_ _) | (with_reducible refine Kd.C_drewN ?_ _) | (with_reducible refine Kd.C_drew ?_))); (case side2 => exact (Kd.R_reads' HO_356000.out).2.1); rintro e w210 ⟨v357, rfl, ho0, hb⟩; refine ⟨_, rfl, ?_⟩; have HO358 := Aside0.mk (Kd.R_lower (Kd.R_new' (Kd.R_new' (Kd.R_new' (Kd.R_new' ho0 (Kd.R_lt (rw_ HO_330000.out))) (Kd.R_lt (rw_ HO_344000.out))) (Kd.R_lt (rw_ HO_352000.out))) (Kd.R_lt (rw_ HO_356000.out))) (below_size (hb_ HB))); replace HO_330000 := Aside0.mk (Kd.R_elder' (rw_ HO_330000.out) (Kd.R_base ho0) hb); replace HO_344000 := Aside0.mk (Kd.R_elder' (rw_ HO_344000.out) (Kd.R_base ho0) hb); replace HO_352000 := Aside0.mk (Kd.R_elder' (rw_ HO_352000.out) (Kd.R_base ho0) hb); replace HO_356000 := Aside0.mk (Kd.R_elder' (rw_ HO_356000.out) (Kd.R_base ho0) hb); replace BK320 := bb_ BK320 hb; replace BK329 := bb_ BK329 hb; replace BK343 := bb_ BK343 hb; replace BK351 := bb_ BK351 hb; replace BK355 := bb_ BK355 hb; replace HB := bs_ HB hb; (try clear hb); (try clear hb2); (try clear hk); (try clear hi); (try clear ho0)) | ((with_reducible refine gate_dst (N := 17) rfl ?_); (try (refine gate_guard (by rfl) ?_; dsimp only)); refine be_ (N := 17) (cs := #[.slice none 0 0, .int .i64 0]) (t := 46) (h := ?_); intro gb362 hg w211 hbox hb; have BK362 := Aside0.mk (hbox); have GW362 := gw_ HB hg; have GE362 := gw_ HB hg; have NB320_362 := ne_ BK320 hg; have NB362_320 := en_ BK320 hg; have NB329_362 := ne_ BK329 hg; have NB362_329 := en_ BK329 hg; have NB343_362 := ne_ BK343 hg; have NB362_343 := en_ BK343 hg; have NB351_362 := ne_ BK351 hg; have NB362_351 := en_ BK351 hg; have NB355_362 := ne_ BK355 hg; have NB362_355 := en_ BK355 hg; replace HO_330000 := Aside0.mk (Kd.R_below (rw_ HO_330000.out) hb); replace HO_344000 := Aside0.mk (Kd.R_below (rw_ HO_344000.out) hb); replace HO_352000 := Aside0.mk (Kd.R_below (rw_ HO_352000.out) hb); replace HO_356000 := Aside0.mk (Kd.R_below (rw_ HO_356000.out) hb); replace HO358 := Aside0.mk (Kd.R_below (rw_ HO358.out) hb); replace BK320 := bb_ BK320 hb; replace BK329 := bb_ BK329 hb; replace BK343 := bb_ BK343 hb; replace BK351 := bb_ BK351 hb; replace BK355 := bb_ BK355 hb; replace HB := bs_ HB hb; clear hb hbox hg; obtain ⟨Ao212, co212, eo212⟩ := Kd.R_slice HO358.out; subst eo212; have hnb213 := NB362_320.out; have hnc213 := NB320_362.out; have hnb214 := NB362_329.out; have hnc214 := NB329_362.out; have hnb215 := NB362_343.out; have hnc215 := NB343_362.out; have hnb216 := NB362_351.out; have hnc216 := NB351_362.out; have hnb217 := NB362_355.out; have hnc217 := NB355_362.out; obtain ⟨hcz218_0, hcz218_1, hfz218_0, hfz218_1⟩ := bc2_ BK362))
               go_meet
               case rel => exact ⟨_, (x356000_4), (x356001_4), (.slice Ao209 x356000_4.length co209), H', ⟨by have := HJ2.out; have := HJ13.out; have := HJ65.out; have := HK4.out; first | omega | exact Nat.le_refl _⟩, ⟨by (with_reducible repeat (first | apply Kd.R_alloc | apply Kd.R_drewN | apply Kd.R_drew)); exact Kd.R_mono (rf_ (Kd.R_types HO_330000.out BK362.out (by decide)) (fun _ hk => hk.2)) (fun _ hk => ⟨hk.1.1.1, ⟨hk.1.1.2.1, hk.1.1.2.2⟩⟩)⟩, ⟨by (with_reducible repeat (first | apply Kd.R_alloc | apply Kd.R_drewN | apply Kd.R_drew)); exact Kd.R_mono (rf_ (Kd.R_types HO_344000.out BK362.out (by decide)) (fun _ hk => hk.2)) (fun _ hk => ⟨hk.1.1.1, hk.1.1.2⟩)⟩, ⟨by (with_reducible repeat (first | apply Kd.R_alloc | apply Kd.R_drewN | apply Kd.R_drew)); exact Kd.R_mono (rf_ (Kd.R_types HO_352000.out BK362.out (by decide)) (fun _ hk => hk.2)) (fun _ hk => ⟨hk.1.1.1, ⟨hk.1.1.2.1, hk.1.1.2.2⟩⟩)⟩, ⟨by (with_reducible repeat (first | apply Kd.R_alloc | apply Kd.R_drewN | apply Kd.R_drew)); exact Kd.R_mono (rf_ (Kd.R_types HO_356000.out BK362.out (by decide)) (fun _ hk => hk.2)) (fun _ hk => ⟨hk.1.1.1, hk.1.1.2⟩)⟩, ⟨bp_ BK320.out⟩, ⟨bp_ BK329.out⟩, ⟨bp_ BK343.out⟩, ⟨bp_ BK351.out⟩, ⟨bp_ BK355.out⟩, ⟨hb_ HB⟩⟩
             ·rw [if_neg c177] at H
              have c177b0 : decide (x16_4 < (l0_0.length : Int)) = false := decide_eq_false c177
              clear c177
              (first | rw [c177b0] | (simp only [i64_w, i32_w]; rw [c177b0]) | skip)
              have H' := Aside0.mk H
              clear H
              have hnb219 := NB320_329.out
              have hnc219 := NB329_320.out
              have hnb220 := NB320_343.out
              have hnc220 := NB343_320.out
              have hnb221 := NB320_351.out
              have hnc221 := NB351_320.out
              have hnb222 := NB320_355.out
              have hnc222 := NB355_320.out
              obtain ⟨hcz223_0, hcz223_1, hfz223_0, hfz223_1⟩ := bc2_ BK320
              go_wp2
              go_meet
              case rel => exact ⟨_, (x356000_4), (x356001_4), (u356000), H', ⟨by have := HJ2.out; have := HJ13.out; have := HJ65.out; have := HK4.out; first | omega | exact Nat.le_refl _⟩, ⟨rw_ HO_330000.out⟩, ⟨rw_ HO_344000.out⟩, ⟨rw_ HO_352000.out⟩, ⟨rw_ HO_356000.out⟩, ⟨bw_ BK320.out⟩, ⟨bw_ BK329.out⟩, ⟨bw_ BK343.out⟩, ⟨bw_ BK351.out⟩, ⟨bw_ BK355.out⟩, ⟨hb_ HB⟩⟩
          case rest =>
           clear HC166
           try clear c10
           try clear c64
           try clear c64b0
           try clear c64b1
           try clear c165
           try clear hcz15_0
           try clear hcz15_1
           try clear hcz170_0
           try clear hcz170_1
           try clear hcz176_0
           try clear hcz176_1
           try clear hcz20_0
           try clear hcz20_1
           try clear hcz68_0
           try clear hcz68_1
           try clear hcz74_0
           try clear hcz74_1
           try clear hcz81_0
           try clear hcz81_1
           try clear hfz15_0
           try clear hfz15_1
           try clear hfz170_0
           try clear hfz170_1
           try clear hfz176_0
           try clear hfz176_1
           try clear hfz20_0
           try clear hfz20_1
           try clear hfz68_0
           try clear hfz68_1
           try clear hfz74_0
           try clear hfz74_1
           try clear hfz81_0
           try clear hfz81_1
           obtain ⟨kq, x356000_165, x356001_165, u356000, HA, HJ165, HO_330000, HO_344000, HO_352000, HO_356000, BK320, BK329, BK343, BK351, BK355, HB⟩ := hcut
           cases kq with
           | zero => exact absurd HA.out (by simp [calamuslaw11_TreeBack.j4])
           | succ kj165 =>
            have H := HA.out
            clear HA
            simp only [calamuslaw11_TreeBack.j4] at H
            by_cases c224 : x356001_165 = 0
            ·rw [if_pos c224] at H
             have c224b0 : (x356001_165 == 0) = true := beq_iff_eq.mpr c224
             have c224b1 : (x356001_165 != 0) = false := bne_eq_false_iff_eq.mpr c224
             clear c224
             have H' := Aside0.mk H
             clear H
             have hnb225 := NB355_320.out
             have hnc225 := NB320_355.out
             have hnb226 := NB355_329.out
             have hnc226 := NB329_355.out
             have hnb227 := NB355_343.out
             have hnc227 := NB343_355.out
             have hnb228 := NB355_351.out
             have hnc228 := NB351_355.out
             obtain ⟨hcz229_0, hcz229_1, hfz229_0, hfz229_1⟩ := bc2_ BK355
             go_wp2
             go_loopg [20] kj165 (fun kq v20 w' => ∃ (x20_5 : Int) (x356000_5 : List (S69)) (x356001_5 : Int) (u356000 : Value), v20 = .int .i64 x20_5 ∧ Aside0 (calamuslaw11_TreeBack.l1 kq a1 x20_5 l0_0 a0_1 t338 t341 x356000_5 x356001_5 = some r) ∧ Aside0 (kq ≤ kj165) ∧ Aside0 (Kd.R k69 69 w' w.heap.size (fun k_ => some k_ ≠ ((.slice Ao71 t338.length co71) : Value).ownBlock ∧ some k_ ≠ ((.slice Ao77 t346.length co77) : Value).ownBlock ∧ some k_ ≠ (u356000 : Value).ownBlock) (.slice Ao18 t323.length co18) t323) ∧ Aside0 (Kd.R k69 69 w' w.heap.size (fun k_ => some k_ ≠ ((.slice Ao18 t323.length co18) : Value).ownBlock ∧ some k_ ≠ ((.slice Ao77 t346.length co77) : Value).ownBlock) (.slice Ao71 t338.length co71) t338) ∧ Aside0 (Kd.R k69 69 w' w.heap.size (fun k_ => some k_ ≠ ((.slice Ao18 t323.length co18) : Value).ownBlock ∧ some k_ ≠ ((.slice Ao71 t338.length co71) : Value).ownBlock ∧ some k_ ≠ (u356000 : Value).ownBlock) (.slice Ao77 t346.length co77) t346) ∧ Aside0 (Kd.R k69 69 w' w.heap.size (fun k_ => some k_ ≠ ((.slice Ao18 t323.length co18) : Value).ownBlock ∧ some k_ ≠ ((.slice Ao77 t346.length co77) : Value).ownBlock) u356000 x356000_5) ∧ Aside0 (w'.heap[gb320]? = some (.cells #[(.slice A0_0 l0_0.length c0_0), .int .i64 a0_1] 46 (0, 0))) ∧ Aside0 (w'.heap[gb329]? = some (.cells #[(.slice Ao18 t323.length co18), .int .i64 t326] 46 (0, 0))) ∧ Aside0 (w'.heap[gb343]? = some (.cells #[(.slice Ao71 t338.length co71), .int .i64 t341] 46 (0, 0))) ∧ Aside0 (w'.heap[gb351]? = some (.cells #[(.slice Ao77 t346.length co77), .int .i64 t349] 46 (0, 0))) ∧ Aside0 (w'.heap[gb355]? = some (.cells #[u356000, .int .i64 x356001_5] 46 (0, 0))) ∧ Aside0 (Below w.heap.size w w'))
             case atStart => exact ⟨(0), (x356000_165), (x356001_165), (u356000), es_, H', ⟨Nat.le_refl _⟩, ⟨rw_ HO_330000.out⟩, ⟨rw_ HO_344000.out⟩, ⟨rw_ HO_352000.out⟩, ⟨rw_ HO_356000.out⟩, ⟨bw_ BK320.out⟩, ⟨bw_ BK329.out⟩, ⟨bw_ BK343.out⟩, ⟨bw_ BK351.out⟩, ⟨bw_ BK355.out⟩, ⟨hb_ HB⟩⟩
             case round =>
              clear H'
              try clear c10
              try clear c64
              try clear c64b0
              try clear c64b1
              try clear c165
              try clear c224
              try clear c224b0
              try clear c224b1
              try clear hcz15_0
              try clear hcz15_1
              try clear hcz170_0
              try clear hcz170_1
              try clear hcz176_0
              try clear hcz176_1
              try clear hcz20_0
              try clear hcz20_1
              try clear hcz229_0
              try clear hcz229_1
              try clear hcz68_0
              try clear hcz68_1
              try clear hcz74_0
              try clear hcz74_1
              try clear hcz81_0
              try clear hcz81_1
              try clear hfz15_0
              try clear hfz15_1
              try clear hfz170_0
              try clear hfz170_1
              try clear hfz176_0
              try clear hfz176_1
              try clear hfz20_0
              try clear hfz20_1
              try clear hfz229_0
              try clear hfz229_1
              try clear hfz68_0
              try clear hfz68_1
              try clear hfz74_0
              try clear hfz74_1
              try clear hfz81_0
              try clear hfz81_1
              obtain ⟨x20_5, x356000_5, x356001_5, u356000, rfl, HA, HK5, HO_330000, HO_344000, HO_352000, HO_356000, BK320, BK329, BK343, BK351, BK355, HB⟩ := hrel
              cases gk with
              | zero => exact absurd HA.out (by simp [calamuslaw11_TreeBack.l1])
              | succ k5 =>
               have H := HA.out
               clear HA
               simp only [calamuslaw11_TreeBack.l1] at H
               have HC230 := Aside0.mk H
               clear H
               go_upto_region 24 with (fail)
               go_cut [155] (fun v155 wc => ∃ (kq : Nat) (x155_229 : Bool), v155 = .bool x155_229 ∧ Aside0 (calamuslaw11_TreeBack.j6 kq a1 x20_5 x155_229 l0_0 a0_1 t338 t341 x356000_5 x356001_5 = some r) ∧ Aside0 (kq ≤ k5) ∧ Aside0 (Kd.R k69 69 wc w.heap.size (fun k_ => some k_ ≠ ((.slice Ao71 t338.length co71) : Value).ownBlock ∧ some k_ ≠ ((.slice Ao77 t346.length co77) : Value).ownBlock ∧ some k_ ≠ (u356000 : Value).ownBlock) (.slice Ao18 t323.length co18) t323) ∧ Aside0 (Kd.R k69 69 wc w.heap.size (fun k_ => some k_ ≠ ((.slice Ao18 t323.length co18) : Value).ownBlock ∧ some k_ ≠ ((.slice Ao77 t346.length co77) : Value).ownBlock) (.slice Ao71 t338.length co71) t338) ∧ Aside0 (Kd.R k69 69 wc w.heap.size (fun k_ => some k_ ≠ ((.slice Ao18 t323.length co18) : Value).ownBlock ∧ some k_ ≠ ((.slice Ao71 t338.length co71) : Value).ownBlock ∧ some k_ ≠ (u356000 : Value).ownBlock) (.slice Ao77 t346.length co77) t346) ∧ Aside0 (Kd.R k69 69 wc w.heap.size (fun k_ => some k_ ≠ ((.slice Ao18 t323.length co18) : Value).ownBlock ∧ some k_ ≠ ((.slice Ao77 t346.length co77) : Value).ownBlock) u356000 x356000_5) ∧ Aside0 (wc.heap[gb320]? = some (.cells #[(.slice A0_0 l0_0.length c0_0), .int .i64 a0_1] 46 (0, 0))) ∧ Aside0 (wc.heap[gb329]? = some (.cells #[(.slice Ao18 t323.length co18), .int .i64 t326] 46 (0, 0))) ∧ Aside0 (wc.heap[gb343]? = some (.cells #[(.slice Ao71 t338.length co71), .int .i64 t341] 46 (0, 0))) ∧ Aside0 (wc.heap[gb351]? = some (.cells #[(.slice Ao77 t346.length co77), .int .i64 t349] 46 (0, 0))) ∧ Aside0 (wc.heap[gb355]? = some (.cells #[u356000, .int .i64 x356001_5] 46 (0, 0))) ∧ Aside0 (Below w.heap.size w wc))
               case first =>
                have H := HC230.out
                clear HC230
                by_cases c231 : x20_5 < (l0_0.length : Int)
                ·rw [if_pos c231] at H
                 have c231b0 : decide (x20_5 < (l0_0.length : Int)) = true := decide_eq_true c231
                 clear c231
                 (first | rw [c231b0] | (simp only [i64_w, i32_w]; rw [c231b0]) | skip)
                 have H' := Aside0.mk H
                 clear H
                 have hnb232 := NB320_329.out
                 have hnc232 := NB329_320.out
                 have hnb233 := NB320_343.out
                 have hnc233 := NB343_320.out
                 have hnb234 := NB320_351.out
                 have hnc234 := NB351_320.out
                 have hnb235 := NB320_355.out
                 have hnc235 := NB355_320.out
                 obtain ⟨hcz236_0, hcz236_1, hfz236_0, hfz236_1⟩ := bc2_ BK320
                 have hnb237 := NB355_329.out
                 have hnc237 := NB329_355.out
                 have hnb238 := NB355_343.out
                 have hnc238 := NB343_355.out
                 have hnb239 := NB355_351.out
                 have hnc239 := NB351_355.out
                 obtain ⟨hcz240_0, hcz240_1, hfz240_0, hfz240_1⟩ := bc2_ BK355
                 go_wp2
                 go_meet
                 case rel => exact ⟨_, ((x356001_5 != a1)), es_, H', ⟨by have := HJ2.out; have := HJ13.out; have := HJ65.out; have := HJ165.out; have := HK5.out; first | omega | exact Nat.le_refl _⟩, ⟨rw_ HO_330000.out⟩, ⟨rw_ HO_344000.out⟩, ⟨rw_ HO_352000.out⟩, ⟨rw_ HO_356000.out⟩, ⟨bw_ BK320.out⟩, ⟨bw_ BK329.out⟩, ⟨bw_ BK343.out⟩, ⟨bw_ BK351.out⟩, ⟨bw_ BK355.out⟩, ⟨hb_ HB⟩⟩
                ·rw [if_neg c231] at H
                 have c231b0 : decide (x20_5 < (l0_0.length : Int)) = false := decide_eq_false c231
                 clear c231
                 (first | rw [c231b0] | (simp only [i64_w, i32_w]; rw [c231b0]) | skip)
                 have H' := Aside0.mk H
                 clear H
                 have hnb241 := NB320_329.out
                 have hnc241 := NB329_320.out
                 have hnb242 := NB320_343.out
                 have hnc242 := NB343_320.out
                 have hnb243 := NB320_351.out
                 have hnc243 := NB351_320.out
                 have hnb244 := NB320_355.out
                 have hnc244 := NB355_320.out
                 obtain ⟨hcz245_0, hcz245_1, hfz245_0, hfz245_1⟩ := bc2_ BK320
                 go_wp2
                 go_meet
                 case rel => exact ⟨_, (false), es_, H', ⟨by have := HJ2.out; have := HJ13.out; have := HJ65.out; have := HJ165.out; have := HK5.out; first | omega | exact Nat.le_refl _⟩, ⟨rw_ HO_330000.out⟩, ⟨rw_ HO_344000.out⟩, ⟨rw_ HO_352000.out⟩, ⟨rw_ HO_356000.out⟩, ⟨bw_ BK320.out⟩, ⟨bw_ BK329.out⟩, ⟨bw_ BK343.out⟩, ⟨bw_ BK351.out⟩, ⟨bw_ BK355.out⟩, ⟨hb_ HB⟩⟩
               case rest =>
                clear HC230
                try clear c10
                try clear c64
                try clear c64b0
                try clear c64b1
                try clear c165
                try clear c224
                try clear c224b0
                try clear c224b1
                try clear hcz15_0
                try clear hcz15_1
                try clear hcz170_0
                try clear hcz170_1
                try clear hcz176_0
                try clear hcz176_1
                try clear hcz20_0
                try clear hcz20_1
                try clear hcz229_0
                try clear hcz229_1
                try clear hcz68_0
                try clear hcz68_1
                try clear hcz74_0
                try clear hcz74_1
                try clear hcz81_0
                try clear hcz81_1
                try clear hfz15_0
                try clear hfz15_1
                try clear hfz170_0
                try clear hfz170_1
                try clear hfz176_0
                try clear hfz176_1
                try clear hfz20_0
                try clear hfz20_1
                try clear hfz229_0
                try clear hfz229_1
                try clear hfz68_0
                try clear hfz68_1
                try clear hfz74_0
                try clear hfz74_1
                try clear hfz81_0
                try clear hfz81_1
                obtain ⟨kq, x155_229, rfl, HA, HJ229, HO_330000, HO_344000, HO_352000, HO_356000, BK320, BK329, BK343, BK351, BK355, HB⟩ := hcut
                cases kq with
                | zero => exact absurd HA.out (by simp [calamuslaw11_TreeBack.j6])
                | succ kj229 =>
                 have H := HA.out
                 clear HA
                 simp only [calamuslaw11_TreeBack.j6] at H
                 by_cases c246 : x155_229 = true
                 ·subst c246
                  have H1 : ((tree_Redo.f kj229 x356000_5 x356001_5).bind fun bt363 => (if bt363.2.2.2 = true then (calamuslaw11_TreeBack.l1 kj229 a1 (wrap64 (x20_5 + 1)) l0_0 a0_1 t338 t341 bt363.1 bt363.2.1) else (some false))) = some r := by rw [if_pos rfl] at H; exact H
                  clear H
                  have H := H1
                  clear H1
                  replace H := Option.bind_eq_some_iff.mp H
                  obtain ⟨⟨t363, t366, t367, t368⟩, A2470, H⟩ := H
                  replace H : (if t368 = true then (calamuslaw11_TreeBack.l1 kj229 a1 (wrap64 (x20_5 + 1)) l0_0 a0_1 t338 t341 t363 t366) else (some false)) = some r := H
                  have A247 := Aside0.mk A2470
                  clear A2470
                  by_cases c248 : t368 = true
                  ·subst c248
                   have H1 : (calamuslaw11_TreeBack.l1 kj229 a1 (wrap64 (x20_5 + 1)) l0_0 a0_1 t338 t341 t363 t366) = some r := by rw [if_pos rfl] at H; exact H
                   clear H
                   have H := H1
                   clear H1
                   have H' := Aside0.mk H
                   clear H
                   have hnb249 := NB355_320.out
                   have hnc249 := NB320_355.out
                   have hnb250 := NB355_329.out
                   have hnc250 := NB329_355.out
                   have hnb251 := NB355_343.out
                   have hnc251 := NB343_355.out
                   have hnb252 := NB355_351.out
                   have hnc252 := NB351_355.out
                   obtain ⟨hcz253_0, hcz253_1, hfz253_0, hfz253_1⟩ := bc2_ BK355
                   obtain ⟨Ao254, co254, eo254⟩ := Kd.R_slice HO_356000.out
                   subst eo254
                   go_wp2_with (first | ((with_reducible refine gate_callee (f := 44) rfl ?_); refine ge_ (some 160) rfl rfl Try.func44 (by kernel_rfl) rfl #[.agg #[.slice Ao254 x356000_5.length co254, .int .i64 x356001_5]] rfl (h := ?_); (with_reducible refine (tree_Redo.calls kj229 _ _ x356000_5 x356001_5 t363 t366 t367 true _ ?side1 ?side2 A247.out).mono ?_); (case side1 => repeat (first | exact (Kd.R_reads' HO_356000.out).2.2 | (with_reducible refine Kd.C_alloc ?_ _) | (with_reducible refine Kd.C_drewN ?_ _) | (with_reducible refine Kd.C_drew ?_))); (case side2 => exact (Kd.R_reads' HO_356000.out).2.1); rintro e w255 ⟨v364, rfl, ho0, hb⟩; refine ⟨_, rfl, ?_⟩; have HO365 := Aside0.mk (Kd.R_lower (Kd.R_new' (Kd.R_new' (Kd.R_new' (Kd.R_new' ho0 (Kd.R_lt (rw_ HO_330000.out))) (Kd.R_lt (rw_ HO_344000.out))) (Kd.R_lt (rw_ HO_352000.out))) (Kd.R_lt (rw_ HO_356000.out))) (below_size (hb_ HB))); replace HO_330000 := Aside0.mk (Kd.R_elder' (rw_ HO_330000.out) (Kd.R_base ho0) hb); replace HO_344000 := Aside0.mk (Kd.R_elder' (rw_ HO_344000.out) (Kd.R_base ho0) hb); replace HO_352000 := Aside0.mk (Kd.R_elder' (rw_ HO_352000.out) (Kd.R_base ho0) hb); replace HO_356000 := Aside0.mk (Kd.R_elder' (rw_ HO_356000.out) (Kd.R_base ho0) hb); replace BK320 := bb_ BK320 hb; replace BK329 := bb_ BK329 hb; replace BK343 := bb_ BK343 hb; replace BK351 := bb_ BK351 hb; replace BK355 := bb_ BK355 hb; replace HB := bs_ HB hb; (try clear hb); (try clear hb2); (try clear hk); (try clear hi); (try clear ho0)) | ((with_reducible refine gate_dst (N := 21) rfl ?_); (try (refine gate_guard (by rfl) ?_; dsimp only)); refine be_ (N := 21) (cs := #[.slice none 0 0, .int .i64 0]) (t := 46) (h := ?_); intro gb369 hg w256 hbox hb; have BK369 := Aside0.mk (hbox); have GW369 := gw_ HB hg; have GE369 := gw_ HB hg; have NB320_369 := ne_ BK320 hg; have NB369_320 := en_ BK320 hg; have NB329_369 := ne_ BK329 hg; have NB369_329 := en_ BK329 hg; have NB343_369 := ne_ BK343 hg; have NB369_343 := en_ BK343 hg; have NB351_369 := ne_ BK351 hg; have NB369_351 := en_ BK351 hg; have NB355_369 := ne_ BK355 hg; have NB369_355 := en_ BK355 hg; replace HO_330000 := Aside0.mk (Kd.R_below (rw_ HO_330000.out) hb); replace HO_344000 := Aside0.mk (Kd.R_below (rw_ HO_344000.out) hb); replace HO_352000 := Aside0.mk (Kd.R_below (rw_ HO_352000.out) hb); replace HO_356000 := Aside0.mk (Kd.R_below (rw_ HO_356000.out) hb); replace HO365 := Aside0.mk (Kd.R_below (rw_ HO365.out) hb); replace BK320 := bb_ BK320 hb; replace BK329 := bb_ BK329 hb; replace BK343 := bb_ BK343 hb; replace BK351 := bb_ BK351 hb; replace BK355 := bb_ BK355 hb; replace HB := bs_ HB hb; clear hb hbox hg; obtain ⟨Ao257, co257, eo257⟩ := Kd.R_slice HO365.out; subst eo257; have hnb258 := NB369_320.out; have hnc258 := NB320_369.out; have hnb259 := NB369_329.out; have hnc259 := NB329_369.out; have hnb260 := NB369_343.out; have hnc260 := NB343_369.out; have hnb261 := NB369_351.out; have hnc261 := NB351_369.out; have hnb262 := NB369_355.out; have hnc262 := NB355_369.out; obtain ⟨hcz263_0, hcz263_1, hfz263_0, hfz263_1⟩ := bc2_ BK369; obtain ⟨hcz264_0, hcz264_1, hfz264_0, hfz264_1⟩ := bc2_ BK355))
                   go_roundg kj229
                   case measure => have := HJ2.out; have := HJ13.out; have := HJ65.out; have := HJ165.out; have := HK5.out; have := HJ229.out; omega
                   case rel => exact ⟨(wrap64 (x20_5 + 1)), (t363), (t366), (.slice Ao257 t363.length co257), es_, H', ⟨by have := HJ2.out; have := HJ13.out; have := HJ65.out; have := HJ165.out; have := HK5.out; have := HJ229.out; omega⟩, ⟨by (with_reducible repeat (first | apply Kd.R_alloc | apply Kd.R_drewN | apply Kd.R_drew)); exact Kd.R_mono (rf_ (Kd.R_far (p := ⟨gb369, 1, none⟩) (Kd.R_far (p := ⟨gb369, 0, none⟩) (Kd.R_types (Kd.R_types HO_330000.out BK369.out (by decide)) BK355.out (by decide)) (fun _ hk => hk.1.2) (.slice Ao257 t363.length co257)) (fun _ hk => hk.1.2) (.int .i64 t366)) (fun _ hk => hk.2)) (fun _ hk => ⟨hk.1.1.1.1, ⟨hk.1.1.1.2.1, hk.1.1.2⟩⟩)⟩, ⟨by (with_reducible repeat (first | apply Kd.R_alloc | apply Kd.R_drewN | apply Kd.R_drew)); exact Kd.R_mono (rf_ (Kd.R_far (p := ⟨gb369, 1, none⟩) (Kd.R_far (p := ⟨gb369, 0, none⟩) (Kd.R_types (Kd.R_types HO_344000.out BK369.out (by decide)) BK355.out (by decide)) (fun _ hk => hk.1.2) (.slice Ao257 t363.length co257)) (fun _ hk => hk.1.2) (.int .i64 t366)) (fun _ hk => hk.2)) (fun _ hk => ⟨hk.1.1.1.1, hk.1.1.1.2⟩)⟩, ⟨by (with_reducible repeat (first | apply Kd.R_alloc | apply Kd.R_drewN | apply Kd.R_drew)); exact Kd.R_mono (rf_ (Kd.R_far (p := ⟨gb369, 1, none⟩) (Kd.R_far (p := ⟨gb369, 0, none⟩) (Kd.R_types (Kd.R_types HO_352000.out BK369.out (by decide)) BK355.out (by decide)) (fun _ hk => hk.1.2) (.slice Ao257 t363.length co257)) (fun _ hk => hk.1.2) (.int .i64 t366)) (fun _ hk => hk.2)) (fun _ hk => ⟨hk.1.1.1.1, ⟨hk.1.1.1.2.1, hk.1.1.2⟩⟩)⟩, ⟨by (with_reducible repeat (first | apply Kd.R_alloc | apply Kd.R_drewN | apply Kd.R_drew)); exact Kd.R_mono (rf_ (Kd.R_far (p := ⟨gb369, 1, none⟩) (Kd.R_far (p := ⟨gb369, 0, none⟩) (Kd.R_types (Kd.R_types HO365.out BK369.out (by decide)) BK355.out (by decide)) (fun _ hk => hk.1.2) (.slice Ao257 t363.length co257)) (fun _ hk => hk.1.2) (.int .i64 t366)) (fun _ hk => hk.2)) (fun _ hk => ⟨hk.1.1.1.1.1.2, hk.1.1.1.2⟩)⟩, ⟨bp_ BK320.out⟩, ⟨bp_ BK329.out⟩, ⟨bp_ BK343.out⟩, ⟨bp_ BK351.out⟩, ⟨bp_ BK355.out⟩, ⟨hb_ HB⟩⟩
                  ·replace c248 := Bool.eq_false_iff.mpr c248
                   subst c248
                   have H1 : (some false) = some r := by rw [if_neg (show ¬ (false = true) by decide)] at H; exact H
                   clear H
                   have H := H1
                   clear H1
                   exact nf_ H hr_
                 ·replace c246 := Bool.eq_false_iff.mpr c246
                  subst c246
                  have H1 : (if x356001_5 = a1 then ((tree_Same.f kj229 x356000_5 x356001_5 t338 t341).bind fun t370 => (if t370 = true then ((calamuslaw11_lives.f kj229).bind fun t371 => (some t371)) else (some false))) else (some false)) = some r := by rw [if_neg (show ¬ (false = true) by decide)] at H; exact H
                  clear H
                  have H := H1
                  clear H1
                  by_cases c280 : x356001_5 = a1
                  ·rw [if_pos c280] at H
                   have c280b0 : (x356001_5 == a1) = true := beq_iff_eq.mpr c280
                   have c280b1 : (x356001_5 != a1) = false := bne_eq_false_iff_eq.mpr c280
                   clear c280
                   replace H := Option.bind_eq_some_iff.mp H
                   obtain ⟨t370, A2810, H⟩ := H
                   replace H : (if t370 = true then ((calamuslaw11_lives.f kj229).bind fun t371 => (some t371)) else (some false)) = some r := H
                   have A281 := Aside0.mk A2810
                   clear A2810
                   by_cases c282 : t370 = true
                   ·subst c282
                    have H1 : ((calamuslaw11_lives.f kj229).bind fun t371 => (some t371)) = some r := by rw [if_pos rfl] at H; exact H
                    clear H
                    have H := H1
                    clear H1
                    replace H := Option.bind_eq_some_iff.mp H
                    obtain ⟨t371, A2830, H⟩ := H
                    replace H : (some t371) = some r := H
                    have A283 := Aside0.mk A2830
                    clear A2830
                    obtain rfl := Option.some.inj H
                    have hnb284 := NB355_320.out
                    have hnc284 := NB320_355.out
                    have hnb285 := NB355_329.out
                    have hnc285 := NB329_355.out
                    have hnb286 := NB355_343.out
                    have hnc286 := NB343_355.out
                    have hnb287 := NB355_351.out
                    have hnc287 := NB351_355.out
                    obtain ⟨hcz288_0, hcz288_1, hfz288_0, hfz288_1⟩ := bc2_ BK355
                    have hnb289 := NB343_320.out
                    have hnc289 := NB320_343.out
                    have hnb290 := NB343_329.out
                    have hnc290 := NB329_343.out
                    have hnb291 := NB343_351.out
                    have hnc291 := NB351_343.out
                    obtain ⟨hcz292_0, hcz292_1, hfz292_0, hfz292_1⟩ := bc2_ BK343
                    obtain ⟨Ao293, co293, eo293⟩ := Kd.R_slice HO_356000.out
                    subst eo293
                    go_wp2_with (first | (go_at_call 39; (with_reducible refine (tree_Same.calls kj229 _ _ x356000_5 x356001_5 _ _ t338 t341 true _ ?side1 ?side2 ?side3 ?side4 A281.out).mono ?_); (case side1 => repeat (first | exact (Kd.R_reads' HO_356000.out).2.2 | (with_reducible refine Kd.C_alloc ?_ _) | (with_reducible refine Kd.C_drewN ?_ _) | (with_reducible refine Kd.C_drew ?_))); (case side2 => exact (Kd.R_reads' HO_356000.out).2.1); (case side3 => repeat (first | exact (Kd.R_reads' HO_344000.out).2.2 | (with_reducible refine Kd.C_alloc ?_ _) | (with_reducible refine Kd.C_drewN ?_ _) | (with_reducible refine Kd.C_drew ?_))); (case side4 => exact (Kd.R_reads' HO_344000.out).2.1); rintro e w294 ⟨rfl, hb⟩; replace HO_330000 := Aside0.mk (Kd.R_below (rw_ HO_330000.out) hb); replace HO_344000 := Aside0.mk (Kd.R_below (rw_ HO_344000.out) hb); replace HO_352000 := Aside0.mk (Kd.R_below (rw_ HO_352000.out) hb); replace HO_356000 := Aside0.mk (Kd.R_below (rw_ HO_356000.out) hb); replace BK320 := bb_ BK320 hb; replace BK329 := bb_ BK329 hb; replace BK343 := bb_ BK343 hb; replace BK351 := bb_ BK351 hb; replace BK355 := bb_ BK355 hb; replace HB := bs_ HB hb; (try clear hb); (try clear hb2); (try clear hk); (try clear hi)) | (go_at_call 33; (with_reducible refine (calamuslaw11_lives.calls kj229  t371 _ A283.out).mono ?_); rintro e w295 ⟨rfl, hb⟩; replace HO_330000 := Aside0.mk (Kd.R_below (rw_ HO_330000.out) hb); replace HO_344000 := Aside0.mk (Kd.R_below (rw_ HO_344000.out) hb); replace HO_352000 := Aside0.mk (Kd.R_below (rw_ HO_352000.out) hb); replace HO_356000 := Aside0.mk (Kd.R_below (rw_ HO_356000.out) hb); replace BK320 := bb_ BK320 hb; replace BK329 := bb_ BK329 hb; replace BK343 := bb_ BK343 hb; replace BK351 := bb_ BK351 hb; replace BK355 := bb_ BK355 hb; replace HB := bs_ HB hb; (try clear hb); (try clear hb2); (try clear hk); (try clear hi)))
                    go_ret
                    exact ⟨er_, hb_ HB⟩
                   ·replace c282 := Bool.eq_false_iff.mpr c282
                    subst c282
                    have H1 : (some false) = some r := by rw [if_neg (show ¬ (false = true) by decide)] at H; exact H
                    clear H
                    have H := H1
                    clear H1
                    exact nf_ H hr_
                  ·rw [if_neg c280] at H
                   have c280b0 : (x356001_5 == a1) = false := beq_eq_false_iff_ne.mpr c280
                   have c280b1 : (x356001_5 != a1) = true := bne_iff_ne.mpr c280
                   exact nf_ H hr_
            ·rw [if_neg c224] at H
             have c224b0 : (x356001_165 == 0) = false := beq_eq_false_iff_ne.mpr c224
             have c224b1 : (x356001_165 != 0) = true := bne_iff_ne.mpr c224
             exact nf_ H hr_
      ·rw [if_neg c64] at H
       have c64b0 : (t342 == 0) = false := beq_eq_false_iff_ne.mpr c64
       have c64b1 : (t342 != 0) = true := bne_iff_ne.mpr c64
       by_cases c317 : a1 < 0
       ·rw [if_pos c317] at H
        have c317b0 : decide (a1 < 0) = true := decide_eq_true c317
        clear c317
        replace H := Option.bind_eq_some_iff.mp H
        obtain ⟨t344, A3180, H⟩ := H
        replace H : (some t344) = some r := H
        have A318 := Aside0.mk A3180
        clear A3180
        obtain rfl := Option.some.inj H
        have hnb319 := NB320_329.out
        have hnc319 := NB329_320.out
        obtain ⟨hcz320_0, hcz320_1, hfz320_0, hfz320_1⟩ := bc2_ BK320
        go_wp2_with (first | ((with_reducible refine gate_callee (f := 53) rfl ?_); refine ge_ (some 63) rfl rfl Try.func53 (by kernel_rfl) rfl #[.agg #[.slice A0_0 l0_0.length c0_0, .int .i64 a0_1], .int .i64 a1] rfl (h := ?_); (with_reducible refine (tree_To.calls kj13 _ _ l0_0 a0_1 a1 t338 t341 t342 _ ?side1 ?side2 A63.out).mono ?_); (case side1 => exact cw_ (Kd.C_below HR0_0.out HB.out)); (case side2 => exact HC0_0.out); rintro e w321 ⟨v339, rfl, ho0, hb⟩; refine ⟨_, rfl, ?_⟩; have HO340 := Aside0.mk (Kd.R_lower (Kd.R_new' ho0 (Kd.R_lt (rw_ HO_330000.out))) (below_size (hb_ HB))); replace HO_330000 := Aside0.mk (Kd.R_elder' (rw_ HO_330000.out) (Kd.R_base ho0) hb); replace BK320 := bb_ BK320 hb; replace BK329 := bb_ BK329 hb; replace HB := bs_ HB hb; (try clear hb); (try clear hb2); (try clear hk); (try clear hi); (try clear ho0)) | ((with_reducible refine gate_dst (N := 11) rfl ?_); (try (refine gate_guard (by rfl) ?_; dsimp only)); refine be_ (N := 11) (cs := #[.slice none 0 0, .int .i64 0]) (t := 46) (h := ?_); intro gb343 hg w322 hbox hb; have BK343 := Aside0.mk (hbox); have GW343 := gw_ HB hg; have GE343 := gw_ HB hg; have NB320_343 := ne_ BK320 hg; have NB343_320 := en_ BK320 hg; have NB329_343 := ne_ BK329 hg; have NB343_329 := en_ BK329 hg; replace HO_330000 := Aside0.mk (Kd.R_below (rw_ HO_330000.out) hb); replace HO340 := Aside0.mk (Kd.R_below (rw_ HO340.out) hb); replace BK320 := bb_ BK320 hb; replace BK329 := bb_ BK329 hb; replace HB := bs_ HB hb; clear hb hbox hg; obtain ⟨Ao323, co323, eo323⟩ := Kd.R_slice HO340.out; subst eo323; have hnb324 := NB343_320.out; have hnc324 := NB320_343.out; have hnb325 := NB343_329.out; have hnc325 := NB329_343.out; obtain ⟨hcz326_0, hcz326_1, hfz326_0, hfz326_1⟩ := bc2_ BK343) | (go_at_call 33; (with_reducible refine (calamuslaw11_lives.calls kj13  t344 _ A318.out).mono ?_); rintro e w327 ⟨rfl, hb⟩; replace HO_330000 := Aside0.mk (Kd.R_below (by (with_reducible repeat (first | apply Kd.R_alloc | apply Kd.R_drewN | apply Kd.R_drew)); exact (Kd.R_mono (rf_ (Kd.R_types HO_330000.out BK343.out (by decide)) (fun _ hk => hk.2)) (fun _ h_ => h_.1))) hb); replace HO340 := Aside0.mk (Kd.R_below (by (with_reducible repeat (first | apply Kd.R_alloc | apply Kd.R_drewN | apply Kd.R_drew)); exact (Kd.R_mono (rf_ (Kd.R_types HO340.out BK343.out (by decide)) (fun _ hk => hk.2)) (fun _ h_ => h_.1))) hb); replace BK320 := Aside0.mk (blk_below (g := gb320) (o := .cells #[.slice A0_0 l0_0.length c0_0, .int .i64 a0_1] 46 (0, 0)) (bp_ BK320.out) hb); replace BK329 := Aside0.mk (blk_below (g := gb329) (o := .cells #[.slice Ao18 t323.length co18, .int .i64 t326] 46 (0, 0)) (bp_ BK329.out) hb); replace HB := bs_ HB hb; replace BK343 := Aside0.mk (blk_below (g := gb343) (o := .cells #[.slice Ao323 t338.length co323, .int .i64 t341] 46 (0, 0)) (bp_ BK343.out) hb); (try clear hb); (try clear hb2); (try clear hk); (try clear hi)))
        go_ret
        exact ⟨er_, hb_ HB⟩
       ·rw [if_neg c317] at H
        have c317b0 : decide (a1 < 0) = false := decide_eq_false c317
        clear c317
        by_cases c328 : a1 ≥ (l0_0.length : Int)
        ·rw [if_pos c328] at H
         have c328b0 : decide ((l0_0.length : Int) ≤ a1) = true := decide_eq_true c328
         clear c328
         replace H := Option.bind_eq_some_iff.mp H
         obtain ⟨t345, A3290, H⟩ := H
         replace H : (some t345) = some r := H
         have A329 := Aside0.mk A3290
         clear A3290
         obtain rfl := Option.some.inj H
         have hnb330 := NB320_329.out
         have hnc330 := NB329_320.out
         obtain ⟨hcz331_0, hcz331_1, hfz331_0, hfz331_1⟩ := bc2_ BK320
         go_wp2_with (first | ((with_reducible refine gate_callee (f := 53) rfl ?_); refine ge_ (some 63) rfl rfl Try.func53 (by kernel_rfl) rfl #[.agg #[.slice A0_0 l0_0.length c0_0, .int .i64 a0_1], .int .i64 a1] rfl (h := ?_); (with_reducible refine (tree_To.calls kj13 _ _ l0_0 a0_1 a1 t338 t341 t342 _ ?side1 ?side2 A63.out).mono ?_); (case side1 => exact cw_ (Kd.C_below HR0_0.out HB.out)); (case side2 => exact HC0_0.out); rintro e w332 ⟨v339, rfl, ho0, hb⟩; refine ⟨_, rfl, ?_⟩; have HO340 := Aside0.mk (Kd.R_lower (Kd.R_new' ho0 (Kd.R_lt (rw_ HO_330000.out))) (below_size (hb_ HB))); replace HO_330000 := Aside0.mk (Kd.R_elder' (rw_ HO_330000.out) (Kd.R_base ho0) hb); replace BK320 := bb_ BK320 hb; replace BK329 := bb_ BK329 hb; replace HB := bs_ HB hb; (try clear hb); (try clear hb2); (try clear hk); (try clear hi); (try clear ho0)) | ((with_reducible refine gate_dst (N := 11) rfl ?_); (try (refine gate_guard (by rfl) ?_; dsimp only)); refine be_ (N := 11) (cs := #[.slice none 0 0, .int .i64 0]) (t := 46) (h := ?_); intro gb343 hg w333 hbox hb; have BK343 := Aside0.mk (hbox); have GW343 := gw_ HB hg; have GE343 := gw_ HB hg; have NB320_343 := ne_ BK320 hg; have NB343_320 := en_ BK320 hg; have NB329_343 := ne_ BK329 hg; have NB343_329 := en_ BK329 hg; replace HO_330000 := Aside0.mk (Kd.R_below (rw_ HO_330000.out) hb); replace HO340 := Aside0.mk (Kd.R_below (rw_ HO340.out) hb); replace BK320 := bb_ BK320 hb; replace BK329 := bb_ BK329 hb; replace HB := bs_ HB hb; clear hb hbox hg; obtain ⟨Ao334, co334, eo334⟩ := Kd.R_slice HO340.out; subst eo334; have hnb335 := NB343_320.out; have hnc335 := NB320_343.out; have hnb336 := NB343_329.out; have hnc336 := NB329_343.out; obtain ⟨hcz337_0, hcz337_1, hfz337_0, hfz337_1⟩ := bc2_ BK343; obtain ⟨hcz338_0, hcz338_1, hfz338_0, hfz338_1⟩ := bc2_ BK320) | (go_at_call 33; (with_reducible refine (calamuslaw11_lives.calls kj13  t345 _ A329.out).mono ?_); rintro e w339 ⟨rfl, hb⟩; replace HO_330000 := Aside0.mk (Kd.R_below (by (with_reducible repeat (first | apply Kd.R_alloc | apply Kd.R_drewN | apply Kd.R_drew)); exact (Kd.R_mono (rf_ (Kd.R_types HO_330000.out BK343.out (by decide)) (fun _ hk => hk.2)) (fun _ h_ => h_.1))) hb); replace HO340 := Aside0.mk (Kd.R_below (by (with_reducible repeat (first | apply Kd.R_alloc | apply Kd.R_drewN | apply Kd.R_drew)); exact (Kd.R_mono (rf_ (Kd.R_types HO340.out BK343.out (by decide)) (fun _ hk => hk.2)) (fun _ h_ => h_.1))) hb); replace BK320 := Aside0.mk (blk_below (g := gb320) (o := .cells #[.slice A0_0 l0_0.length c0_0, .int .i64 a0_1] 46 (0, 0)) (bp_ BK320.out) hb); replace BK329 := Aside0.mk (blk_below (g := gb329) (o := .cells #[.slice Ao18 t323.length co18, .int .i64 t326] 46 (0, 0)) (bp_ BK329.out) hb); replace HB := bs_ HB hb; replace BK343 := Aside0.mk (blk_below (g := gb343) (o := .cells #[.slice Ao334 t338.length co334, .int .i64 t341] 46 (0, 0)) (bp_ BK343.out) hb); (try clear hb); (try clear hb2); (try clear hk); (try clear hi)))
         go_ret
         exact ⟨er_, hb_ HB⟩
        ·rw [if_neg c328] at H
         have c328b0 : decide ((l0_0.length : Int) ≤ a1) = false := decide_eq_false c328
         clear c328
         exact nf_ H hr_
end Go.Proofs.Ytkiokimpblimcaa.PTreeBack
