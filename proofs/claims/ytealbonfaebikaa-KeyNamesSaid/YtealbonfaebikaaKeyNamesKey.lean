/- What the functions of layer 13, the program's and the document's, tell: keys, signs, names.
  Template: Ytealbonfaebikaa the seat's name, KeyNames the law's key; in pieces. -/
import Derived.Test.YtealbonfaebikaaKeyNamesUtf
namespace Go.Proofs.Ytealbonfaebikaa.KeyNamesKey
open Go.RowKit Go.Proofs.YtealbonfaebikaaW.PrintWords Go.Proofs.YtealbonfaebikaaW.PrintLast Go.Proofs.YtealbonfaebikaaW.PrintMore
open Go.Proofs.Ytealbonfaebikaa.PKeyNames Go.Proofs.Ytealbonfaebikaa.Utf Go.Proofs.Ytealbonfaebikaa.Open Go.Proofs.Ytealbonfaebikaa.KeyNamesUtf
set_option linter.unusedVariables false
set_option linter.unusedSimpArgs false

theorem evr {α : Type} {c : Prop} [Decidable c] {a b : Nat → Option α} {r : α} (k : Ev a r) (h : c := by first | rfl | trivial | simp) : Ev (fun n => if c then a n else b n) r := ev_pos h k
theorem lives_ : Ev (fun k => calamuslaw13_lives.f k) true := Ev.of calamuslaw13_lives.mono (k := 40) (by decide +kernel)
def sgnB (s : ByteArray) : Bool := if (s.size : Int) > 1 then true else if bt s 0 ≥ 32 then decide (bt s 0 < 127) else false
/-- Is it a sign? -/
def sgn (s : ByteArray) : Bool := if Rn (bytesOf s) then sgnB s else false
theorem rn_size {s : ByteArray} (h : Rn (bytesOf s)) : 1 ≤ s.size ∧ s.size ≤ 4 := by rw [← bytes_len]; exact one_len h
theorem nm_list (s : ByteArray) (b : UInt8) : s.toList = [b] ↔ s = ⟨#[b]⟩ := by
 have e : (⟨#[b]⟩ : ByteArray).toList = [b] := by rw [ByteArray.toList_eq]
 constructor
 ·intro h; rw [← e] at h; exact (toList_inj _ _).1 h
 ·intro h; rw [h, e]
theorem sign_is (s : ByteArray) (hs : s.size ≤ 140737488351232) : Ev (fun k => key_Sign.f k s) (sgn s) := by
 unfold key_Sign.f
 by_cases hv : Val (bytesOf s)
 ·obtain ⟨rs, h, e⟩ := hv
  refine ev_bind (count_yes hs h e) ?_
  by_cases h1 : rs.length = 1
  ·obtain ⟨r, rfl⟩ := List.length_eq_one_iff.1 h1
   have hr : Rn (bytesOf s) := by rw [e]; simpa using h.head
   have hz := rn_size hr
   refine ev_pos (by simp) ?_
   unfold sgn sgnB
   rw [if_pos hr]
   by_cases h2 : (s.size : Int) > 1
   ·refine ev_pos h2 ?_
    rw [if_pos h2]; exact Ev.now _
   ·refine ev_neg h2 (ev_pos (by omega) ?_)
    rw [if_neg h2]
    by_cases h3 : bt s 0 ≥ 32
    ·refine ev_pos h3 ?_
     rw [if_pos h3]; exact Ev.now _
    ·refine ev_neg h3 ?_
     rw [if_neg h3]; exact Ev.now _
  ·have hr : ¬ Rn (bytesOf s) := by
    intro hr
    have : rs = [bytesOf s] := runes_inj h (All.cons hr All.nil) (by rw [← e]; simp)
    rw [this] at h1
    exact h1 rfl
   unfold sgn
   rw [if_neg hr]
   exact ev_neg (by omega) (Ev.now _)
 ·refine ev_bind (count_no hv) ?_
  have hr : ¬ Rn (bytesOf s) := by
   intro hr
   exact hv ⟨[bytesOf s], All.cons hr All.nil, by simp⟩
  unfold sgn
  rw [if_neg hr]
  exact ev_neg (by decide) (Ev.now _)
theorem rsign_is (s : ByteArray) : Ev (fun k => calamusref13_Sign.f k s) (sgn s) := by
 unfold calamusref13_Sign.f
 refine ev_bind (is_any s) ?_
 unfold sgn
 by_cases hr : Rn (bytesOf s)
 ·have hz := rn_size hr
  rw [if_pos hr]
  refine ev_pos (decide_eq_true hr) ?_
  unfold sgnB
  by_cases h2 : (s.size : Int) > 1
  ·refine ev_pos h2 ?_
   rw [if_pos h2]; exact Ev.now _
  ·refine ev_neg h2 (ev_pos (by omega) ?_)
   rw [if_neg h2]
   by_cases h3 : bt s 0 ≥ 32
   ·refine ev_pos h3 ?_
    rw [if_pos h3]
    have e : decide (bt s 0 < 127) = decide (bt s 0 ≤ 126) := by rw [decide_eq_decide]; omega
    rw [e]
    exact Ev.now _
   ·refine ev_neg h3 ?_
    rw [if_neg h3]; exact Ev.now _
 ·rw [if_neg hr]
  exact ev_neg (by simpa using hr) (Ev.now _)
/-- A key's name. -/
def nam (s : ByteArray) : ByteArray := (nmV s).getD (if sgn s = true then s else ⟨#[]⟩)
def rgt (s : ByteArray) : Bool := (nmV s).isSome || sgn s
theorem name_is (s : ByteArray) (hs : s.size ≤ 140737488351232) : Ev (fun k => key_Name.f k s) (nam s) := by
 unfold key_Name.f nam
 cases h : nmV s with
 | some x => exact evr (Ev.now _)
 | none =>
  refine ev_neg (by simp) (ev_bind (sign_is s hs) ?_)
  by_cases g : sgn s = true
  ·refine ev_pos g ?_
   rw [Option.getD_none, if_pos g]; exact Ev.now _
  ·refine ev_neg g ?_
   rw [Option.getD_none, if_neg g]; exact Ev.now _
theorem right_is (s : ByteArray) (hs : s.size ≤ 140737488351232) : Ev (fun k => key_Right.f k s) (rgt s) := by
 unfold key_Right.f rgt
 cases h : nmV s with
 | some x => exact evr (Ev.now _)
 | none =>
  refine ev_neg (by simp) (ev_bind (sign_is s hs) ?_)
  rw [Option.isSome_none, Bool.false_or]
  exact Ev.now _
theorem nm_none (s : ByteArray) (h8 : s ≠ ⟨#[8]⟩) (h9 : s ≠ ⟨#[9]⟩) (h13 : s ≠ ⟨#[13]⟩) (h18 : s ≠ ⟨#[18]⟩) (h21 : s ≠ ⟨#[21]⟩) (h23 : s ≠ ⟨#[23]⟩) (h27 : s ≠ ⟨#[27]⟩) (h60 : s ≠ ⟨#[60]⟩) : nmV s = none := by
 have q : ∀ t : ByteArray, s ≠ t → (s == t) = false := fun t h => by
  cases e : s == t with
  | false => rfl
  | true => exact absurd ((MapKept.bytes_beq s t).1 e) h
 unfold nmV nmT
 simp only [List.find?, q _ h8, q _ h9, q _ h13, q _ h18, q _ h21, q _ h23, q _ h27, q _ h60, Option.map_none]
theorem rname_is (s : ByteArray) : Ev (fun k => calamusref13_Name.f k s) (nam s) := by
 unfold calamusref13_Name.f
 simp only [nm_list]
 by_cases h8 : s = ⟨#[8]⟩
 ·subst h8; exact evr (Ev.now _)
 refine ev_neg h8 ?_
 by_cases h9 : s = ⟨#[9]⟩
 ·subst h9; exact evr (Ev.now _)
 refine ev_neg h9 ?_
 by_cases h13 : s = ⟨#[13]⟩
 ·subst h13; exact evr (Ev.now _)
 refine ev_neg h13 ?_
 by_cases h18 : s = ⟨#[18]⟩
 ·subst h18; exact evr (Ev.now _)
 refine ev_neg h18 ?_
 by_cases h21 : s = ⟨#[21]⟩
 ·subst h21; exact evr (Ev.now _)
 refine ev_neg h21 ?_
 by_cases h23 : s = ⟨#[23]⟩
 ·subst h23; exact evr (Ev.now _)
 refine ev_neg h23 ?_
 by_cases h27 : s = ⟨#[27]⟩
 ·subst h27; exact evr (Ev.now _)
 refine ev_neg h27 ?_
 by_cases h60 : s = ⟨#[60]⟩
 ·subst h60; exact evr (Ev.now _)
 refine ev_neg h60 (ev_bind (rsign_is s) ?_)
 unfold nam
 rw [nm_none s h8 h9 h13 h18 h21 h23 h27 h60, Option.getD_none]
 by_cases g : sgn s = true
 ·refine ev_pos g ?_
  rw [if_pos g]; exact Ev.now _
 ·refine ev_neg g ?_
  rw [if_neg g]; exact Ev.now _
theorem nmT_ne : ∀ p ∈ nmT, bytesOf p.2 ≠ [] := by decide +kernel
theorem nmV_ne {s x : ByteArray} (h : nmV s = some x) : bytesOf x ≠ [] := by
 unfold nmV at h
 obtain ⟨p, hp, rfl⟩ := Option.map_eq_some_iff.1 h
 exact nmT_ne p (List.mem_of_find?_eq_some hp)
theorem nam_nil (s : ByteArray) : ((nam s).toList != ([] : List UInt8)) = rgt s := by
 have key : (nam s).toList = ([] : List UInt8) ↔ rgt s = false := by
  rw [toList_nil]
  unfold nam rgt
  cases h : nmV s with
  | some x => simpa using nmV_ne h
  | none =>
   rw [Option.getD_none, Option.isSome_none, Bool.false_or]
   by_cases g : sgn s = true
   ·rw [if_pos g, g]
    have hr : Rn (bytesOf s) := by unfold sgn at g; by_cases hr : Rn (bytesOf s); exact hr; rw [if_neg hr] at g; exact absurd g (by decide)
    simpa using one_ne hr
   ·rw [if_neg g]
    simp only [Bool.not_eq_true] at g
    rw [g]
    exact ⟨fun _ => rfl, fun _ => rfl⟩
 cases hb : rgt s with
 | false => rw [bne_eq_false_iff_eq]; exact key.2 hb
 | true =>
  rw [bne_iff_ne]
  intro h
  rw [key.1 h] at hb
  exact absurd hb (by decide)
theorem rright_is (s : ByteArray) : Ev (fun k => calamusref13_Right.f k s) (rgt s) := by
 unfold calamusref13_Right.f
 refine ev_bind (rname_is s) ?_
 rw [nam_nil]
 exact Ev.now _
end Go.Proofs.Ytealbonfaebikaa.KeyNamesKey
