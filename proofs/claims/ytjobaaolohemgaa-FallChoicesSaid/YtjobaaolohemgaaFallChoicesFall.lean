/- What the functions of layer 32, the program's and the document's, tell: choices by their numbers.
  Template: Ytjobaaolohemgaa the seat's name, FallChoices the law's key; in pieces. -/
import Derived.Test.YtjobaaolohemgaaOpen
import Derived.Test.YtjobaaolohemgaaOFallChoicesx
import Derived.Test.YtjobaaolohemgaaOFallChoicesp
namespace Go.Proofs.Ytjobaaolohemgaa.FallChoicesFall
open Go.RowKit Go.Proofs.YtjobaaolohemgaaW.PrintWords Go.Proofs.YtjobaaolohemgaaW.PrintLast Go.Proofs.YtjobaaolohemgaaW.PrintMore
open Go.Proofs.Ytjobaaolohemgaa.PFallChoices Go.Proofs.Ytjobaaolohemgaa.Open
set_option linter.unusedVariables false
set_option linter.unusedSimpArgs false

theorem wrap_id {x : Int} (h : -9223372036854775808 ≤ x) (h' : x ≤ 9223372036854775807) : wrap64 x = x := by unfold wrap64; omega
theorem ev_from {α : Type} {g : Nat → Option α} {r : α} (K : Nat) (h : ∀ k, g (k + K) = some r) : Ev g r := ⟨K, fun k hk => by
 have := h (k - K); rwa [Nat.sub_add_cancel hk] at this⟩
theorem ev_off {α : Type} {g : Nat → Option α} {r : α} (K : Nat) (h : Ev (fun k => g (k + K)) r) : Ev g r := by
 obtain ⟨J, hJ⟩ := h
 exact ⟨J + K, fun k hk => by have := hJ (k - K) (by omega); simp only at this; rwa [Nat.sub_add_cancel (by omega)] at this⟩
theorem ev_bind {α β : Type} {g : Nat → Option α} {f : Nat → α → Option β} {a : α} {r : β} (h : Ev g a) (k : Ev (fun n => f n a) r) : Ev (fun n => (g n).bind (f n)) r := Ev.bind h k
theorem ev_bnd {α β : Type} {g : Option α} {f : Nat → α → Option β} {a : α} {r : β} (h : g = some a) (k : Ev (fun n => f n a) r) : Ev (fun n => g.bind (f n)) r := by subst h; exact k
theorem ev_pos {α : Type} {c : Prop} [Decidable c] {a b : Nat → Option α} {r : α} (h : c) (k : Ev a r) : Ev (fun n => if c then a n else b n) r := by
 obtain ⟨K, hK⟩ := k
 exact ⟨K, fun n hn => by simp only [if_pos h]; exact hK n hn⟩
theorem ev_neg {α : Type} {c : Prop} [Decidable c] {a b : Nat → Option α} {r : α} (h : ¬ c) (k : Ev b r) : Ev (fun n => if c then a n else b n) r := by
 obtain ⟨K, hK⟩ := k
 exact ⟨K, fun n hn => by simp only [if_neg h]; exact hK n hn⟩
theorem evr {α : Type} {c : Prop} [Decidable c] {a b : Nat → Option α} {r : α} (k : Ev a r) (h : c := by first | rfl | trivial | simp) : Ev (fun n => if c then a n else b n) r := ev_pos h k
theorem rd_get {l : List Int} {i : Nat} (h : i < l.length) : rd l (i : Int) = l[i] := by
 unfold rd
 rw [Int.toNat_natCast, List.getD_eq_getElem?_getD, List.getElem?_eq_getElem h]; rfl
theorem okn_iff {n : Int} : okn n = true ↔ 0 ≤ n ∧ n ≤ 1073741824 := by simp [okn]
theorem lives_ : Ev (fun _ => calamuslaw32_lives.f) true := ⟨0, fun k hk => (by decide +kernel : calamuslaw32_lives.f = some true)⟩
theorem okall {d : Int} {l : List Int} (h : (d :: l).all okn = true) : ∀ x ∈ d :: l, okn x = true := fun x hx => List.all_eq_true.1 h x hx
theorem c1pos (a n : Int) (ha : 1 ≤ a) (hn : okn n = true) : 1 ≤ cnt1 a n := by
 rw [okn_iff] at hn
 have h1 : 1 * (n + 1) ≤ a * (n + 1) := Int.mul_le_mul_of_nonneg_right ha (by omega)
 unfold cnt1 mn
 split <;> omega
theorem c1le (a n : Int) (ha : 0 ≤ a ∧ a ≤ 1073741824) (hn : okn n = true) : 0 ≤ cnt1 a n ∧ cnt1 a n ≤ 1073741824 ∧ 0 ≤ a * (n + 1) ∧ a * (n + 1) ≤ 1152921505680588800 := by
 rw [okn_iff] at hn
 have h1 : 0 ≤ a * (n + 1) := Int.mul_nonneg ha.1 (by omega)
 have h2 : a * (n + 1) ≤ 1073741824 * (n + 1) := Int.mul_le_mul_of_nonneg_right ha.2 (by omega)
 unfold cnt1 mn
 refine ⟨?_, ?_, h1, by omega⟩ <;> split <;> omega
theorem call_range : ∀ (l : List Int) (a : Int), (1 ≤ a ∧ a ≤ 1073741824) → (∀ x ∈ l, okn x = true) → 1 ≤ l.foldl cnt1 a ∧ l.foldl cnt1 a ≤ 1073741824
 | [], a, h, _ => h
 | n :: l, a, h, hl => call_range l _ ⟨c1pos a n h.1 (hl n (by simp)), (c1le a n ⟨by omega, h.2⟩ (hl n (by simp))).2.1⟩ (fun x hx => hl x (by simp [hx]))
theorem cnt_range {d : Int} {l : List Int} (h : (d :: l).all okn = true) : 1 ≤ cntAll (d :: l) ∧ cntAll (d :: l) ≤ 1073741824 := call_range (d :: l) 1 (by decide) (okall h)
theorem right_is (d : Int) (l : List Int) (h : l.length ≤ 17592186043904) : fall_right.f d l = some ((d :: l).all okn) := by
 unfold fall_right.f; rw [if_pos (by omega)]
theorem same_l (a b : List Int) (hl : a.length = b.length) (hm : a.length ≤ 17592186043904) (d : Nat) : ∀ i : Nat, i + d = a.length → Ev (fun k => calamusref01_Same.l0 k a b i) (decide (a.drop i = b.drop i)) := by
 induction d with
 | zero =>
  intro i hi
  refine ev_off 1 ?_
  simp only [calamusref01_Same.l0]
  rw [List.drop_of_length_le (by omega), List.drop_of_length_le (by omega)]
  exact ev_neg (by omega) (Ev.now _)
 | succ d ih =>
  intro i hi
  refine ev_off 1 ?_
  simp only [calamusref01_Same.l0]
  refine ev_pos (by omega) (ev_pos (by omega) (ev_pos (by omega) ?_))
  rw [List.drop_eq_getElem_cons (show i < a.length by omega), List.drop_eq_getElem_cons (show i < b.length by omega)]
  rw [rd_get (show i < a.length by omega), rd_get (show i < b.length by omega)]
  by_cases h : a[i] = b[i]
  ·refine ev_pos h ?_
   rw [wrap_id (by omega) (by omega)]
   have e : decide (a[i] :: a.drop (i + 1) = b[i] :: b.drop (i + 1)) = decide (a.drop (i + 1) = b.drop (i + 1)) := by rw [decide_eq_decide]; exact ⟨fun e => (List.cons.inj e).2, fun e => by rw [h, e]⟩
   rw [e]
   exact ih (i + 1) (by omega)
  ·rw [decide_eq_false (fun e => h (List.cons.inj e).1)]
   exact ev_neg h (Ev.now _)
theorem same_is (a b : List Int) (hm : a.length ≤ 17592186043904) : Ev (fun k => calamusref01_Same.f k a b) (decide (a = b)) := by
 unfold calamusref01_Same.f
 by_cases h : a.length = b.length
 ·exact ev_pos (by omega) (same_l a b h hm a.length 0 (by omega))
 ·rw [decide_eq_false (fun e => h (by rw [e]))]
  exact ev_neg (by omega) (Ev.now _)
theorem rnd_lt (n b : Int) (hb : 1 ≤ b) : 0 ≤ rnd n b ∧ rnd n b < b := by
 unfold rnd
 have h1 := Int.tmod_lt_of_pos n (show 0 < b by omega)
 have h2 := Int.lt_tmod_of_pos n (show 0 < b by omega)
 split <;> omega
theorem rnd_self {n b : Int} (h : 0 ≤ n) (hb : n < b) : rnd n b = n := by
 have e : Int.tmod n b = n := Int.tmod_eq_of_lt h hb
 unfold rnd; rw [e, if_neg (by omega)]
/-- The numbers of one choice. -/
theorem ns_range (d : Int) (l : List Int) (n : Int) (hn : 0 ≤ n ∧ n ≤ 1073741824) (hr : ∀ k, k ≤ l.length → 1 ≤ rm_ d l k) : ∀ k, k ≤ l.length + 1 → 0 ≤ ns d l n k ∧ ns d l n k ≤ 1073741824
 | 0, _ => hn
 | k + 1, hk => by
  have ih := ns_range d l n hn hr k (by omega)
  have hr := hr k (by omega)
  have e : Int.tdiv (ns d l n k) (rm_ d l k) = ns d l n k / rm_ d l k := Int.tdiv_eq_ediv_of_nonneg ih.1
  have h0 : 0 ≤ ns d l n k / rm_ d l k := Int.ediv_nonneg ih.1 (by omega)
  have h1 : ns d l n k / rm_ d l k ≤ ns d l n k := Int.ediv_le_self _ ih.1
  rw [ns, e, wrap_id (by omega) (by omega)]
  omega
theorem ns_step (d : Int) (l : List Int) (n : Int) (hn : 0 ≤ n ∧ n ≤ 1073741824) (hr : ∀ k, k ≤ l.length → 1 ≤ rm_ d l k) (k : Nat) (hk : k ≤ l.length) : ns d l n (k + 1) = ns d l n k / rm_ d l k := by
 have ih := ns_range d l n hn hr k (by omega)
 have e : Int.tdiv (ns d l n k) (rm_ d l k) = ns d l n k / rm_ d l k := Int.tdiv_eq_ediv_of_nonneg ih.1
 have h0 : 0 ≤ ns d l n k / rm_ d l k := Int.ediv_nonneg ih.1 (by have := hr k hk; omega)
 have h1 : ns d l n k / rm_ d l k ≤ ns d l n k := Int.ediv_le_self _ ih.1
 rw [ns, e, wrap_id (by omega) (by omega)]
theorem nx_is (d : Int) (l : List Int) (n : Int) (hn : 0 ≤ n ∧ n ≤ 1073741824) (hr : ∀ k, k ≤ l.length → 1 ≤ rm_ d l k) (k : Nat) (hk : k ≤ l.length) : nx d l n k = ns d l n k % rm_ d l k :=
 Int.tmod_eq_emod_of_nonneg (ns_range d l n hn hr k (by omega)).1
theorem rm_get (d : Int) (l : List Int) (k : Nat) (hk : k ≤ l.length) : rm_ d l k = (d :: l)[k]'(by simp; omega) + 1 := by
 cases k with
 | zero => rfl
 | succ k => rw [rm_, rd_get (by omega)]; rfl
theorem rm_pos {d : Int} {l : List Int} (h : (d :: l).all okn = true) : ∀ k, k ≤ l.length → 1 ≤ rm_ d l k ∧ rm_ d l k ≤ 1073741825 := by
 intro k hk
 rw [rm_get d l k hk]
 have := okn_iff.1 (okall h _ (List.getElem_mem (l := d :: l) (n := k) (by simp; omega)))
 omega
/-- As one list. -/
def dg : List Int → Int → List Int
 | [], _ => []
 | r :: rs, n => n % r :: dg rs (n / r)
def pr : List Int → Int
 | [] => 1
 | r :: rs => r * pr rs
theorem ns_tail (d x : Int) (l : List Int) (n : Int) : ∀ k, ns d (x :: l) n (k + 1) = ns x l (wrap64 (Int.tdiv n (d + 1))) k
 | 0 => rfl
 | k + 1 => by
  rw [ns, ns_tail d x l n k]
  have e : rm_ d (x :: l) (k + 1) = rm_ x l k := by
   cases k with
   | zero => rfl
   | succ k => simp only [rm_]; congr 1
  rw [e]
  rfl
theorem nx_list : ∀ (l : List Int) (d n : Int), (0 ≤ n ∧ n ≤ 1073741824) → (d :: l).all okn = true → (nx d l n 0 :: (List.range l.length).map (fun k : Nat => nx d l n (k + 1))) = dg ((d :: l).map (· + 1)) n
 | [], d, n, hn, h => by
  have := okn_iff.1 (okall h d (by simp))
  simp only [List.length_nil, List.range_zero, List.map_nil, List.map_cons, dg]
  rw [nx, ns, Int.tmod_eq_emod_of_nonneg hn.1]; rfl
 | x :: l, d, n, hn, h => by
  have hd := okn_iff.1 (okall h d (by simp))
  have e : Int.tdiv n (d + 1) = n / (d + 1) := Int.tdiv_eq_ediv_of_nonneg hn.1
  have h0 : 0 ≤ n / (d + 1) := Int.ediv_nonneg hn.1 (by omega)
  have h1 : n / (d + 1) ≤ n := Int.ediv_le_self _ hn.1
  have ew : wrap64 (Int.tdiv n (d + 1)) = n / (d + 1) := by rw [e, wrap_id (by omega) (by omega)]
  have ih := nx_list l x (n / (d + 1)) (by omega) (by simp only [List.all_cons, Bool.and_eq_true] at h ⊢; exact h.2)
  have st : ∀ k, nx d (x :: l) n (k + 1) = nx x l (n / (d + 1)) k := fun k => by
   unfold nx
   rw [ns_tail, ew]
   cases k with
   | zero => rfl
   | succ k => simp only [rm_]; congr 1
  rw [List.map_cons, dg, ← ih, List.length_cons, List.range_succ_eq_map, List.map_cons, List.map_map]
  rw [show nx d (x :: l) n 0 = n % (d + 1) from by rw [nx, ns, Int.tmod_eq_emod_of_nonneg hn.1]; rfl, st 0]
  congr 1
  congr 1
  apply List.map_congr_left
  intro k _
  exact st (k + 1)
theorem flat_is (d : Int) (l : List Int) (h : l.length ≤ 17592186043904) : calamusref32_flat.f d l = some (d :: l) := by
 unfold calamusref32_flat.f
 simp only [Option.bind_some]
 rw [if_pos (by simp only [List.length_cons, List.length_nil]; omega)]
 rfl
theorem rright_l (L : List Int) (hL : L.length ≤ 17592186043905) (e : Nat) : ∀ i : Nat, i + e = L.length → Ev (fun k => calamusref32_right.l0 k L i) ((L.drop i).all okn) := by
 induction e with
 | zero =>
  intro i hi
  refine ev_off 1 ?_
  simp only [calamusref32_right.l0]
  rw [List.drop_of_length_le (by omega)]
  exact ev_neg (by omega) (Ev.now _)
 | succ e ih =>
  intro i hi
  have hlt : i < L.length := by omega
  refine ev_off 1 ?_
  simp only [calamusref32_right.l0, rd_get hlt]
  refine ev_pos (by omega) (ev_pos (by omega) ?_)
  rw [List.drop_eq_getElem_cons hlt, List.all_cons]
  by_cases h0 : L[i] < 0
  ·have : okn L[i] = false := by rw [Bool.eq_false_iff]; intro h; have := okn_iff.1 h; omega
   rw [this, Bool.false_and]
   exact ev_pos h0 (Ev.now _)
  ·refine ev_neg h0 ?_
   by_cases h1 : L[i] > 1073741824
   ·have : okn L[i] = false := by rw [Bool.eq_false_iff]; intro h; have := okn_iff.1 h; omega
    rw [this, Bool.false_and]
    exact ev_pos h1 (Ev.now _)
   ·refine ev_neg h1 ?_
    have : okn L[i] = true := okn_iff.2 (by omega)
    rw [this, Bool.true_and, wrap_id (by omega) (by omega)]
    exact ih (i + 1) (by omega)
theorem rright_is (d : Int) (l : List Int) (h : l.length ≤ 17592186043904) : Ev (fun k => calamusref32_right.f k d l) ((d :: l).all okn) := by
 unfold calamusref32_right.f
 exact ev_bnd (flat_is d l h) (rright_l (d :: l) (by simp only [List.length_cons]; omega) (d :: l).length 0 (by omega))
theorem made_is (a : Int) (t : List Int) : calamusref32_made.f (a :: t) = some (a, t) := by
 unfold calamusref32_made.f
 rw [if_pos (by simp only [List.length_cons]; omega), if_pos (by simp only [List.length_cons]; omega)]
 rfl
/-- A list, filled up to a place. -/
def fl (A : List Int) (i : Nat) : List Int := A.take i ++ List.replicate (A.length - i) 0
theorem fl_len (A : List Int) (i : Nat) (h : i ≤ A.length) : (fl A i).length = A.length := by simp [fl]; omega
theorem fl_zero (A : List Int) : fl A 0 = List.replicate A.length 0 := by simp [fl]
theorem fl_all (A : List Int) : fl A A.length = A := by simp [fl]
theorem fl_cut (A : List Int) (i : Nat) (h : i < A.length) : fl A i = A.take i ++ 0 :: List.replicate (A.length - (i + 1)) 0 := by
 unfold fl
 rw [show A.length - i = (A.length - (i + 1)) + 1 from by omega, List.replicate_succ]
theorem fl_next (A : List Int) (i : Nat) (h : i < A.length) : fl A (i + 1) = A.take i ++ A[i] :: List.replicate (A.length - (i + 1)) 0 := by
 unfold fl
 rw [List.take_succ_eq_append_getElem h, List.append_assoc]; rfl
theorem fl_set (A : List Int) (i : Nat) (h : i < A.length) : (fl A i).set i A[i] = fl A (i + 1) := by
 rw [fl_cut A i h, fl_next A i h, List.set_append_right _ _ (by rw [List.length_take]; omega), List.length_take, Nat.min_eq_left (by omega), Nat.sub_self]
 rfl
theorem fl_skip (A : List Int) (i : Nat) (h : i < A.length) (h0 : A[i] = 0) : fl A i = fl A (i + 1) := by
 rw [fl_cut A i h, fl_next A i h, h0]
/-- A choice's least numbers. -/
def ro (L M : List Int) : List Int := (List.range L.length).map (fun i : Nat => if i < M.length then rnd (rd M (i : Int)) (rd L (i : Int) + 1) else 0)
theorem ro_len (L M : List Int) : (ro L M).length = L.length := by simp [ro]
theorem ro_get (L M : List Int) (i : Nat) (h : i < (ro L M).length) : (ro L M)[i] = if i < M.length then rnd (rd M (i : Int)) (rd L (i : Int) + 1) else 0 := by simp [ro]
theorem rnd_twice (n b : Int) (hb : 1 ≤ b) : Int.tmod (Int.tmod n b + b) b = rnd n b := by
 have h1 := Int.tmod_lt_of_pos n (show 0 < b by omega)
 have h2 := Int.lt_tmod_of_pos n (show 0 < b by omega)
 unfold rnd
 by_cases g : Int.tmod n b < 0
 ·rw [if_pos g]; exact Int.tmod_eq_of_lt (by omega) (by omega)
 ·rw [if_neg g, Int.tmod_eq_emod_of_nonneg (by omega), Int.add_emod_right, Int.emod_eq_of_lt (by omega) (by omega)]
theorem rround_l (L M : List Int) (hL : L.length ≤ 1001) (hk : ∀ x ∈ L, okn x = true) (a : Int) (t : List Int) (ha : ro L M = a :: t) (e : Nat) : ∀ i : Nat, i + e = L.length → Ev (fun k => calamusref32_Round.l0 k L M (fl (ro L M) i) i) (a, t) := by
 induction e with
 | zero =>
  intro i hi
  refine ev_off 1 ?_
  simp only [calamusref32_Round.l0]
  refine ev_neg (by omega) ?_
  rw [show i = (ro L M).length from by rw [ro_len]; omega, fl_all, ha]
  exact ev_bnd (made_is a t) (Ev.now _)
 | succ e ih =>
  intro i hi
  have hlt : i < L.length := by omega
  have hlr : i < (ro L M).length := by rw [ro_len]; exact hlt
  refine ev_off 1 ?_
  simp only [calamusref32_Round.l0]
  refine ev_pos (by omega) ?_
  have hx := okn_iff.1 (hk _ (List.getElem_mem hlt))
  have q := ih (i + 1) (by omega)
  rw [wrap_id (x := (i : Int) + 1) (by omega) (by omega)]
  by_cases hm : i < M.length
  ·have hb : 1 ≤ rd L (i : Int) + 1 ∧ rd L (i : Int) + 1 ≤ 1073741825 := by rw [rd_get hlt]; omega
   have e1 : wrap64 (rd L (i : Int) + 1) = rd L (i : Int) + 1 := wrap_id (by omega) (by omega)
   have t1 := Int.tmod_lt_of_pos (rd M (i : Int)) (show 0 < rd L (i : Int) + 1 by omega)
   have t2 := Int.lt_tmod_of_pos (rd M (i : Int)) (show 0 < rd L (i : Int) + 1 by omega)
   have e2 : wrap64 (Int.tmod (rd M (i : Int)) (rd L (i : Int) + 1) + rd L (i : Int)) = Int.tmod (rd M (i : Int)) (rd L (i : Int) + 1) + rd L (i : Int) := wrap_id (by omega) (by omega)
   have e3 : wrap64 (Int.tmod (rd M (i : Int)) (rd L (i : Int) + 1) + rd L (i : Int) + 1) = Int.tmod (rd M (i : Int)) (rd L (i : Int) + 1) + (rd L (i : Int) + 1) := by rw [wrap_id (by omega) (by omega), Int.add_assoc]
   have e4 : (fl (ro L M) i).set i (rnd (rd M (i : Int)) (rd L (i : Int) + 1)) = fl (ro L M) (i + 1) := by
    rw [← fl_set _ i hlr, ro_get _ _ _ hlr, if_pos hm]
   simp only [e1, e2, e3, rnd_twice _ _ hb.1, Int.toNat_natCast, e4]
   exact ev_pos (by omega) (ev_pos (by omega) (ev_neg (by omega) (ev_pos (by rw [fl_len _ _ (by omega)]; omega) q)))
  ·rw [fl_skip _ i hlr (by rw [ro_get _ _ _ hlr, if_neg hm])]
   exact ev_neg (by omega) q
theorem ro_cons (d : Int) (l : List Int) (cd : Int) (lc : List Int) (hl : l.length ≤ 1000) (hc : lc.length ≤ 1000) : ro (d :: l) (cd :: lc) = rndAt cd lc (-1) (d + 1) :: (List.range l.length).map (fun k : Nat => rndAt cd lc (k : Int) (rd l (k : Int) + 1)) := by
 unfold ro
 rw [show (d :: l).length = l.length + 1 from rfl, List.range_succ_eq_map, List.map_cons, List.map_map]
 congr 1
 apply List.map_congr_left
 intro k hk
 have hk := List.mem_range.1 hk
 simp only [Function.comp, rndAt, List.length_cons]
 rw [if_neg (show ¬ ((k : Int) < 0) by omega)]
 have e1 : rd (cd :: lc) ((k + 1 : Nat) : Int) = rd lc (k : Int) := by unfold rd; simp
 have e2 : rd (d :: l) ((k + 1 : Nat) : Int) = rd l (k : Int) := by unfold rd; simp
 by_cases g : k < lc.length
 ·rw [if_pos (by omega), if_pos (by omega)]
  simp only [Nat.succ_eq_add_one, e1, e2]
 ·rw [if_neg (by omega), if_neg (by omega)]
theorem rround_is (d : Int) (l : List Int) (cd : Int) (lc : List Int) (hl : l.length ≤ 1000) (hc : lc.length ≤ 1000) :
  Ev (fun k => calamusref32_Round.f k d l cd lc) (if (d :: l).all okn = true then (rndAt cd lc (-1) (d + 1), (List.range l.length).map (fun k : Nat => rndAt cd lc (k : Int) (rd l (k : Int) + 1))) else (0, [])) := by
 unfold calamusref32_Round.f
 refine ev_bind (rright_is d l (by omega)) ?_
 by_cases h : (d :: l).all okn = true
 ·rw [if_pos h]
  refine ev_pos h (ev_bnd (flat_is d l (by omega)) (ev_bnd (flat_is cd lc (by omega)) ?_))
  refine ev_pos (by omega) (ev_pos (by simp only [List.length_cons]; omega) ?_)
  have e : List.replicate (((d :: l).length : Nat) : Int).toNat (0 : Int) = fl (ro (d :: l) (cd :: lc)) 0 := by rw [fl_zero, ro_len, Int.toNat_natCast]
  rw [e]
  exact rround_l (d :: l) (cd :: lc) (by simp only [List.length_cons]; omega) (okall h) _ _ (ro_cons d l cd lc hl hc) (d :: l).length 0 (by omega)
 ·rw [if_neg h]
  exact ev_neg h (Ev.now _)
theorem rcount_l (L : List Int) (hL : L.length ≤ 17592186043905) (hk : ∀ x ∈ L, okn x = true) (e : Nat) : ∀ (i : Nat) (n : Int), i + e = L.length → 0 ≤ n ∧ n ≤ 1073741824 → Ev (fun k => calamusref32_Count.l0 k n L i) ((L.drop i).foldl cnt1 n) := by
 induction e with
 | zero =>
  intro i n hi hn
  refine ev_off 1 ?_
  simp only [calamusref32_Count.l0]
  rw [List.drop_of_length_le (by omega)]
  exact ev_neg (by omega) (Ev.now _)
 | succ e ih =>
  intro i n hi hn
  have hlt : i < L.length := by omega
  have hx := hk _ (List.getElem_mem hlt)
  have hx' := okn_iff.1 hx
  have hc := c1le n L[i] hn hx
  have q := ih (i + 1) (cnt1 n L[i]) (by omega) ⟨hc.1, hc.2.1⟩
  refine ev_off 1 ?_
  have e1 : wrap64 (L[i] + 1) = L[i] + 1 := wrap_id (by omega) (by omega)
  have e2 : wrap64 (n * (L[i] + 1)) = n * (L[i] + 1) := by
   have h := hc.2.2
   generalize n * (L[i] + 1) = m at h
   exact wrap_id (by omega) (by omega)
  simp only [calamusref32_Count.l0, rd_get hlt, e1, e2]
  rw [wrap_id (x := (i : Int) + 1) (by omega) (by omega), List.drop_eq_getElem_cons hlt, List.foldl_cons]
  refine ev_pos (by omega) (ev_pos (by omega) ?_)
  unfold cnt1 mn at q ⊢
  by_cases g : 1073741824 < n * (L[i] + 1)
  ·rw [if_pos g] at q ⊢
   exact ev_pos g q
  ·rw [if_neg g] at q ⊢
   exact ev_neg g q
theorem rcount_is (d : Int) (l : List Int) (h : l.length ≤ 17592186043904) : Ev (fun k => calamusref32_Count.f k d l) (if (d :: l).all okn = true then cntAll (d :: l) else 0) := by
 unfold calamusref32_Count.f
 refine ev_bind (rright_is d l h) ?_
 by_cases g : (d :: l).all okn = true
 ·rw [if_pos g]
  exact ev_pos g (ev_bnd (flat_is d l h) (rcount_l (d :: l) (by simp only [List.length_cons]; omega) (okall g) (d :: l).length 0 1 (by omega) (by decide)))
 ·rw [if_neg g]
  exact ev_neg g (Ev.now _)
def na (d : Int) (l : List Int) (n : Int) : List Int := (List.range (l.length + 1)).map (nx d l n)
theorem na_len (d : Int) (l : List Int) (n : Int) : (na d l n).length = l.length + 1 := by simp [na]
theorem na_get (d : Int) (l : List Int) (n : Int) (i : Nat) (h : i < (na d l n).length) : (na d l n)[i] = nx d l n i := by simp [na]
theorem na_cons (d : Int) (l : List Int) (n : Int) : na d l n = nx d l n 0 :: (List.range l.length).map (fun k : Nat => nx d l n (k + 1)) := by
 unfold na
 rw [List.range_succ_eq_map, List.map_cons, List.map_map]; rfl
theorem rnth_l (d : Int) (l : List Int) (n : Int) (hl : l.length ≤ 1000) (hk : (d :: l).all okn = true) (hn : 0 ≤ n ∧ n ≤ 1073741824) (e : Nat) : ∀ i : Nat, i + e = l.length + 1 →
  Ev (fun k => calamusref32_Nth.l0 k (ns d l n i) (d :: l) (fl (na d l n) i) i) (nx d l n 0, (List.range l.length).map (fun k : Nat => nx d l n (k + 1))) := by
 have hr : ∀ k, k ≤ l.length → 1 ≤ rm_ d l k := fun k hk' => (rm_pos hk k hk').1
 induction e with
 | zero =>
  intro i hi
  refine ev_off 1 ?_
  simp only [calamusref32_Nth.l0]
  refine ev_neg (by simp only [List.length_cons]; omega) ?_
  rw [show i = (na d l n).length from by rw [na_len]; omega, fl_all, na_cons]
  exact ev_bnd (made_is _ _) (Ev.now _)
 | succ e ih =>
  intro i hi
  have hlt : i < (d :: l).length := by simp only [List.length_cons]; omega
  have hln : i < (na d l n).length := by rw [na_len]; omega
  have hr' := rm_pos hk i (by omega)
  have hs := ns_range d l n hn hr i (by omega)
  have hs1 := ns_step d l n hn hr i (by omega)
  have hx := nx_is d l n hn hr i (by omega)
  have q := ih (i + 1) (by omega)
  have er : rd (d :: l) (i : Int) + 1 = rm_ d l i := by rw [rd_get hlt, rm_get d l i (by omega)]
  have e1 : wrap64 (rd (d :: l) (i : Int) + 1) = rm_ d l i := by rw [er, wrap_id (by omega) (by omega)]
  have e2 : Int.tdiv (ns d l n i) (rm_ d l i) = ns d l n i / rm_ d l i := Int.tdiv_eq_ediv_of_nonneg hs.1
  have h0 : 0 ≤ ns d l n i / rm_ d l i := Int.ediv_nonneg hs.1 (by omega)
  have h1 : ns d l n i / rm_ d l i ≤ ns d l n i := Int.ediv_le_self _ hs.1
  have e3 : wrap64 (ns d l n i / rm_ d l i) = ns d l n (i + 1) := by rw [hs1, wrap_id (by omega) (by omega)]
  have e4 : wrap64 (ns d l n i - wrap64 (ns d l n (i + 1) * rm_ d l i)) = nx d l n i := by
   have b := Int.mul_ediv_add_emod (ns d l n i) (rm_ d l i)
   have b2 := Int.emod_nonneg (ns d l n i) (show rm_ d l i ≠ 0 by omega)
   have b3 : 0 ≤ rm_ d l i * (ns d l n i / rm_ d l i) := Int.mul_nonneg (by omega) h0
   rw [hx, hs1, Int.mul_comm]
   generalize rm_ d l i * (ns d l n i / rm_ d l i) = m at b b3
   rw [wrap_id (x := m) (by omega) (by omega), wrap_id (by omega) (by omega)]
   omega
  have e5 : (fl (na d l n) i).set i (nx d l n i) = fl (na d l n) (i + 1) := by rw [← fl_set _ i hln, na_get _ _ _ _ hln]
  refine ev_off 1 ?_
  simp only [calamusref32_Nth.l0, e1, e2, e3, e4, Int.toNat_natCast, e5]
  rw [wrap_id (x := (i : Int) + 1) (by omega) (by omega)]
  refine ev_pos (by omega) (ev_pos (by omega) (ev_neg (by omega) (ev_pos (by rw [fl_len _ _ (by omega), na_len]; omega) q)))
theorem rnth_is (d : Int) (l : List Int) (n : Int) (hl : l.length ≤ 1000) :
  Ev (fun k => calamusref32_Nth.f k d l n) (if (d :: l).all okn = true then (nx d l (rnd n (cntAll (d :: l))) 0, (List.range l.length).map (fun k : Nat => nx d l (rnd n (cntAll (d :: l))) (k + 1))) else (0, [])) := by
 unfold calamusref32_Nth.f
 refine ev_bind (rright_is d l (by omega)) ?_
 by_cases h : (d :: l).all okn = true
 ·rw [if_pos h]
  have hc := cnt_range h
  have q := rcount_is d l (by omega)
  rw [if_pos h] at q
  refine ev_pos h (ev_bind q (ev_neg (by omega) (ev_bnd (flat_is d l (by omega)) ?_)))
  refine ev_pos (by omega) (ev_pos (by simp only [List.length_cons]; omega) ?_)
  have t1 := Int.tmod_lt_of_pos n (show 0 < cntAll (d :: l) by omega)
  have t2 := Int.lt_tmod_of_pos n (show 0 < cntAll (d :: l) by omega)
  have e1 : Int.tmod (wrap64 (Int.tmod n (cntAll (d :: l)) + cntAll (d :: l))) (cntAll (d :: l)) = rnd n (cntAll (d :: l)) := by rw [wrap_id (by omega) (by omega), rnd_twice _ _ hc.1]
  have e2 : List.replicate (((d :: l).length : Nat) : Int).toNat (0 : Int) = fl (na d l (rnd n (cntAll (d :: l)))) 0 := by rw [fl_zero, na_len, Int.toNat_natCast]; rfl
  rw [e1, e2]
  have hb := rnd_lt n (cntAll (d :: l)) hc.1
  exact rnth_l d l (rnd n (cntAll (d :: l))) hl h (by omega) (l.length + 1) 0 (by omega)
 ·rw [if_neg h]
  exact ev_neg h (Ev.now _)
end Go.Proofs.Ytjobaaolohemgaa.FallChoicesFall
