/- What the functions of layer 32, the program's and the document's, tell: choices by their numbers.
  Template: Ytjobaaolohemgaa the seat's name, FallAll the law's key; in pieces. -/
import Derived.Test.YtjobaaolohemgaaOpen
import Derived.Test.YtjobaaolohemgaaOFallAllx
import Derived.Test.YtjobaaolohemgaaOFallAllp
namespace Go.Proofs.Ytjobaaolohemgaa.FallAllFall
open Go.RowKit Go.Proofs.YtjobaaolohemgaaW.PrintWords Go.Proofs.YtjobaaolohemgaaW.PrintLast Go.Proofs.YtjobaaolohemgaaW.PrintMore
open Go.Proofs.Ytjobaaolohemgaa.PFallAll Go.Proofs.Ytjobaaolohemgaa.Open
set_option linter.unusedVariables false
set_option linter.unusedSimpArgs false

theorem wrap_id {x : Int} (h : -9223372036854775808 ≤ x) (h' : x ≤ 9223372036854775807) : wrap64 x = x := by unfold wrap64; omega
theorem ev_from {α : Type} {g : Nat → Option α} {r : α} (K : Nat) (h : ∀ k, g (k + K) = some r) : Ev g r := ⟨K, fun k hk => by
 have := h (k - K); rwa [Nat.sub_add_cancel hk] at this⟩
theorem ev_off {α : Type} {g : Nat → Option α} {r : α} (K : Nat) (h : Ev (fun k => g (k + K)) r) : Ev g r := by
 obtain ⟨J, hJ⟩ := h
 exact ⟨J + K, fun k hk => by have := hJ (k - K) (by omega); simp only at this; rwa [Nat.sub_add_cancel (by omega)] at this⟩
theorem ev_bind {α β : Type} {g : Nat → Option α} {f : Nat → α → Option β} {a : α} {r : β} (h : Ev g a) (k : Ev (fun n => f n a) r) : Ev (fun n => (g n).bind (f n)) r := Ev.bind h k
theorem ev_bnd {α β : Type} {g : Option α} {f : Nat → α → Option β} {a : α} {r : β} (h : g = some a) (k : Ev (fun n => f n a) r) : Ev (fun n => g.bind (f n)) r := by subst h; exact k
theorem ev_pos {α : Type} {c : Prop} [Decidable c] {a b : Nat → Option α} {r : α} (h : c) (k : Ev a r) : Ev (fun n => if c then a n else b n) r := by
 obtain ⟨K, hK⟩ := k
 exact ⟨K, fun n hn => by simp only [if_pos h]; exact hK n hn⟩
theorem ev_neg {α : Type} {c : Prop} [Decidable c] {a b : Nat → Option α} {r : α} (h : ¬ c) (k : Ev b r) : Ev (fun n => if c then a n else b n) r := by
 obtain ⟨K, hK⟩ := k
 exact ⟨K, fun n hn => by simp only [if_neg h]; exact hK n hn⟩
theorem evr {α : Type} {c : Prop} [Decidable c] {a b : Nat → Option α} {r : α} (k : Ev a r) (h : c := by first | rfl | trivial | simp) : Ev (fun n => if c then a n else b n) r := ev_pos h k
theorem rd_get {l : List Int} {i : Nat} (h : i < l.length) : rd l (i : Int) = l[i] := by
 unfold rd
 rw [Int.toNat_natCast, List.getD_eq_getElem?_getD, List.getElem?_eq_getElem h]; rfl
theorem okn_iff {n : Int} : okn n = true ↔ 0 ≤ n ∧ n ≤ 1073741824 := by simp [okn]
theorem lives_ : Ev (fun _ => calamuslaw32_lives.f) true := ⟨0, fun k hk => (by decide +kernel : calamuslaw32_lives.f = some true)⟩
theorem okall {d : Int} {l : List Int} (h : (d :: l).all okn = true) : ∀ x ∈ d :: l, okn x = true := fun x hx => List.all_eq_true.1 h x hx
theorem c1pos (a n : Int) (ha : 1 ≤ a) (hn : okn n = true) : 1 ≤ cnt1 a n := by
 rw [okn_iff] at hn
 have h1 : 1 * (n + 1) ≤ a * (n + 1) := Int.mul_le_mul_of_nonneg_right ha (by omega)
 unfold cnt1 mn
 split <;> omega
theorem c1le (a n : Int) (ha : 0 ≤ a ∧ a ≤ 1073741824) (hn : okn n = true) : 0 ≤ cnt1 a n ∧ cnt1 a n ≤ 1073741824 ∧ 0 ≤ a * (n + 1) ∧ a * (n + 1) ≤ 1152921505680588800 := by
 rw [okn_iff] at hn
 have h1 : 0 ≤ a * (n + 1) := Int.mul_nonneg ha.1 (by omega)
 have h2 : a * (n + 1) ≤ 1073741824 * (n + 1) := Int.mul_le_mul_of_nonneg_right ha.2 (by omega)
 unfold cnt1 mn
 refine ⟨?_, ?_, h1, by omega⟩ <;> split <;> omega
theorem call_range : ∀ (l : List Int) (a : Int), (1 ≤ a ∧ a ≤ 1073741824) → (∀ x ∈ l, okn x = true) → 1 ≤ l.foldl cnt1 a ∧ l.foldl cnt1 a ≤ 1073741824
 | [], a, h, _ => h
 | n :: l, a, h, hl => call_range l _ ⟨c1pos a n h.1 (hl n (by simp)), (c1le a n ⟨by omega, h.2⟩ (hl n (by simp))).2.1⟩ (fun x hx => hl x (by simp [hx]))
theorem cnt_range {d : Int} {l : List Int} (h : (d :: l).all okn = true) : 1 ≤ cntAll (d :: l) ∧ cntAll (d :: l) ≤ 1073741824 := call_range (d :: l) 1 (by decide) (okall h)
theorem right_is (d : Int) (l : List Int) (h : l.length ≤ 17592186043904) : fall_right.f d l = some ((d :: l).all okn) := by
 unfold fall_right.f; rw [if_pos (by omega)]
theorem same_l (a b : List Int) (hl : a.length = b.length) (hm : a.length ≤ 17592186043904) (d : Nat) : ∀ i : Nat, i + d = a.length → Ev (fun k => calamusref01_Same.l0 k a b i) (decide (a.drop i = b.drop i)) := by
 induction d with
 | zero =>
  intro i hi
  refine ev_off 1 ?_
  simp only [calamusref01_Same.l0]
  rw [List.drop_of_length_le (by omega), List.drop_of_length_le (by omega)]
  exact ev_neg (by omega) (Ev.now _)
 | succ d ih =>
  intro i hi
  refine ev_off 1 ?_
  simp only [calamusref01_Same.l0]
  refine ev_pos (by omega) (ev_pos (by omega) (ev_pos (by omega) ?_))
  rw [List.drop_eq_getElem_cons (show i < a.length by omega), List.drop_eq_getElem_cons (show i < b.length by omega)]
  rw [rd_get (show i < a.length by omega), rd_get (show i < b.length by omega)]
  by_cases h : a[i] = b[i]
  ·refine ev_pos h ?_
   rw [wrap_id (by omega) (by omega)]
   have e : decide (a[i] :: a.drop (i + 1) = b[i] :: b.drop (i + 1)) = decide (a.drop (i + 1) = b.drop (i + 1)) := by rw [decide_eq_decide]; exact ⟨fun e => (List.cons.inj e).2, fun e => by rw [h, e]⟩
   rw [e]
   exact ih (i + 1) (by omega)
  ·rw [decide_eq_false (fun e => h (List.cons.inj e).1)]
   exact ev_neg h (Ev.now _)
theorem same_is (a b : List Int) (hm : a.length ≤ 17592186043904) : Ev (fun k => calamusref01_Same.f k a b) (decide (a = b)) := by
 unfold calamusref01_Same.f
 by_cases h : a.length = b.length
 ·exact ev_pos (by omega) (same_l a b h hm a.length 0 (by omega))
 ·rw [decide_eq_false (fun e => h (by rw [e]))]
  exact ev_neg (by omega) (Ev.now _)
theorem rnd_lt (n b : Int) (hb : 1 ≤ b) : 0 ≤ rnd n b ∧ rnd n b < b := by
 unfold rnd
 have h1 := Int.tmod_lt_of_pos n (show 0 < b by omega)
 have h2 := Int.lt_tmod_of_pos n (show 0 < b by omega)
 split <;> omega
theorem rnd_self {n b : Int} (h : 0 ≤ n) (hb : n < b) : rnd n b = n := by
 have e : Int.tmod n b = n := Int.tmod_eq_of_lt h hb
 unfold rnd; rw [e, if_neg (by omega)]
/-- The numbers of one choice. -/
theorem ns_range (d : Int) (l : List Int) (n : Int) (hn : 0 ≤ n ∧ n ≤ 1073741824) (hr : ∀ k, k ≤ l.length → 1 ≤ rm_ d l k) : ∀ k, k ≤ l.length + 1 → 0 ≤ ns d l n k ∧ ns d l n k ≤ 1073741824
 | 0, _ => hn
 | k + 1, hk => by
  have ih := ns_range d l n hn hr k (by omega)
  have hr := hr k (by omega)
  have e : Int.tdiv (ns d l n k) (rm_ d l k) = ns d l n k / rm_ d l k := Int.tdiv_eq_ediv_of_nonneg ih.1
  have h0 : 0 ≤ ns d l n k / rm_ d l k := Int.ediv_nonneg ih.1 (by omega)
  have h1 : ns d l n k / rm_ d l k ≤ ns d l n k := Int.ediv_le_self _ ih.1
  rw [ns, e, wrap_id (by omega) (by omega)]
  omega
theorem ns_step (d : Int) (l : List Int) (n : Int) (hn : 0 ≤ n ∧ n ≤ 1073741824) (hr : ∀ k, k ≤ l.length → 1 ≤ rm_ d l k) (k : Nat) (hk : k ≤ l.length) : ns d l n (k + 1) = ns d l n k / rm_ d l k := by
 have ih := ns_range d l n hn hr k (by omega)
 have e : Int.tdiv (ns d l n k) (rm_ d l k) = ns d l n k / rm_ d l k := Int.tdiv_eq_ediv_of_nonneg ih.1
 have h0 : 0 ≤ ns d l n k / rm_ d l k := Int.ediv_nonneg ih.1 (by have := hr k hk; omega)
 have h1 : ns d l n k / rm_ d l k ≤ ns d l n k := Int.ediv_le_self _ ih.1
 rw [ns, e, wrap_id (by omega) (by omega)]
theorem nx_is (d : Int) (l : List Int) (n : Int) (hn : 0 ≤ n ∧ n ≤ 1073741824) (hr : ∀ k, k ≤ l.length → 1 ≤ rm_ d l k) (k : Nat) (hk : k ≤ l.length) : nx d l n k = ns d l n k % rm_ d l k :=
 Int.tmod_eq_emod_of_nonneg (ns_range d l n hn hr k (by omega)).1
theorem rm_get (d : Int) (l : List Int) (k : Nat) (hk : k ≤ l.length) : rm_ d l k = (d :: l)[k]'(by simp; omega) + 1 := by
 cases k with
 | zero => rfl
 | succ k => rw [rm_, rd_get (by omega)]; rfl
theorem rm_pos {d : Int} {l : List Int} (h : (d :: l).all okn = true) : ∀ k, k ≤ l.length → 1 ≤ rm_ d l k ∧ rm_ d l k ≤ 1073741825 := by
 intro k hk
 rw [rm_get d l k hk]
 have := okn_iff.1 (okall h _ (List.getElem_mem (l := d :: l) (n := k) (by simp; omega)))
 omega
/-- As one list. -/
def dg : List Int → Int → List Int
 | [], _ => []
 | r :: rs, n => n % r :: dg rs (n / r)
def pr : List Int → Int
 | [] => 1
 | r :: rs => r * pr rs
theorem ns_tail (d x : Int) (l : List Int) (n : Int) : ∀ k, ns d (x :: l) n (k + 1) = ns x l (wrap64 (Int.tdiv n (d + 1))) k
 | 0 => rfl
 | k + 1 => by
  rw [ns, ns_tail d x l n k]
  have e : rm_ d (x :: l) (k + 1) = rm_ x l k := by
   cases k with
   | zero => rfl
   | succ k => simp only [rm_]; congr 1
  rw [e]
  rfl
theorem nx_list : ∀ (l : List Int) (d n : Int), (0 ≤ n ∧ n ≤ 1073741824) → (d :: l).all okn = true → (nx d l n 0 :: (List.range l.length).map (fun k : Nat => nx d l n (k + 1))) = dg ((d :: l).map (· + 1)) n
 | [], d, n, hn, h => by
  have := okn_iff.1 (okall h d (by simp))
  simp only [List.length_nil, List.range_zero, List.map_nil, List.map_cons, dg]
  rw [nx, ns, Int.tmod_eq_emod_of_nonneg hn.1]; rfl
 | x :: l, d, n, hn, h => by
  have hd := okn_iff.1 (okall h d (by simp))
  have e : Int.tdiv n (d + 1) = n / (d + 1) := Int.tdiv_eq_ediv_of_nonneg hn.1
  have h0 : 0 ≤ n / (d + 1) := Int.ediv_nonneg hn.1 (by omega)
  have h1 : n / (d + 1) ≤ n := Int.ediv_le_self _ hn.1
  have ew : wrap64 (Int.tdiv n (d + 1)) = n / (d + 1) := by rw [e, wrap_id (by omega) (by omega)]
  have ih := nx_list l x (n / (d + 1)) (by omega) (by simp only [List.all_cons, Bool.and_eq_true] at h ⊢; exact h.2)
  have st : ∀ k, nx d (x :: l) n (k + 1) = nx x l (n / (d + 1)) k := fun k => by
   unfold nx
   rw [ns_tail, ew]
   cases k with
   | zero => rfl
   | succ k => simp only [rm_]; congr 1
  rw [List.map_cons, dg, ← ih, List.length_cons, List.range_succ_eq_map, List.map_cons, List.map_map]
  rw [show nx d (x :: l) n 0 = n % (d + 1) from by rw [nx, ns, Int.tmod_eq_emod_of_nonneg hn.1]; rfl, st 0]
  congr 1
  congr 1
  apply List.map_congr_left
  intro k _
  exact st (k + 1)
theorem pr_pos : ∀ (R : List Int), (∀ r ∈ R, 1 ≤ r) → 1 ≤ pr R
 | [], _ => by simp [pr]
 | r :: R, h => by
  have h1 := h r (by simp)
  have h2 := pr_pos R (fun x hx => h x (by simp [hx]))
  rw [pr]
  have : 1 * 1 ≤ r * pr R := Int.mul_le_mul h1 h2 (by omega) (by omega)
  omega
theorem dg_len : ∀ (R : List Int) (n : Int), (dg R n).length = R.length
 | [], _ => rfl
 | r :: R, n => by rw [dg, List.length_cons, List.length_cons, dg_len R]
theorem dg_inj : ∀ (R : List Int) (n m : Int), (∀ r ∈ R, 1 ≤ r) → 0 ≤ n → n < pr R → 0 ≤ m → m < pr R → dg R n = dg R m → n = m
 | [], n, m, _, h0, h1, h2, h3, _ => by simp only [pr] at h1 h3; omega
 | r :: R, n, m, h, h0, h1, h2, h3, e => by
  have hr := h r (by simp)
  rw [pr] at h1 h3
  obtain ⟨e1, e2⟩ := List.cons.inj e
  have a1 : n / r < pr R := Int.ediv_lt_of_lt_mul (by omega) (by rw [Int.mul_comm]; exact h1)
  have a2 : m / r < pr R := Int.ediv_lt_of_lt_mul (by omega) (by rw [Int.mul_comm]; exact h3)
  have q := dg_inj R (n / r) (m / r) (fun x hx => h x (by simp [hx])) (Int.ediv_nonneg h0 (by omega)) a1 (Int.ediv_nonneg h2 (by omega)) a2 e2
  have b1 := Int.mul_ediv_add_emod n r
  have b2 := Int.mul_ediv_add_emod m r
  rw [← b1, ← b2, q, e1]
theorem dg_last : ∀ (R : List Int), (∀ r ∈ R, 1 ≤ r) → dg R (pr R - 1) = R.map (· - 1)
 | [], _ => rfl
 | r :: R, h => by
  have hr := h r (by simp)
  have hp := pr_pos R (fun x hx => h x (by simp [hx]))
  have e : r * pr R - 1 = (r - 1) + r * (pr R - 1) := by rw [Int.mul_sub]; omega
  have e1 : (r * pr R - 1) % r = r - 1 := by rw [e, Int.add_mul_emod_self_left, Int.emod_eq_of_lt (by omega) (by omega)]
  have e2 : (r * pr R - 1) / r = pr R - 1 := by rw [e, Int.add_mul_ediv_left _ _ (by omega), Int.ediv_eq_zero_of_lt (by omega) (by omega)]; omega
  rw [pr, dg, e1, e2, dg_last R (fun x hx => h x (by simp [hx])), List.map_cons]
theorem cnt_pr : ∀ (l : List Int) (a : Int), (1 ≤ a ∧ a ≤ 1073741824) → (∀ x ∈ l, okn x = true) → l.foldl cnt1 a = mn (a * pr (l.map (· + 1))) 1073741824
 | [], a, h, _ => by
  simp only [List.foldl_nil, List.map_nil, pr, Int.mul_one]
  unfold mn; rw [if_neg (by omega)]
 | x :: l, a, h, hl => by
  have hx := okn_iff.1 (hl x (by simp))
  have hp := pr_pos (l.map (· + 1)) (fun r hr => by
   obtain ⟨y, hy, rfl⟩ := List.mem_map.1 hr
   have := okn_iff.1 (hl y (by simp [hy])); omega)
  have c1 := c1pos a x h.1 (hl x (by simp))
  have c2 := c1le a x ⟨by omega, h.2⟩ (hl x (by simp))
  rw [List.foldl_cons, cnt_pr l _ ⟨c1, c2.2.1⟩ (fun y hy => hl y (by simp [hy])), List.map_cons, pr, ← Int.mul_assoc]
  generalize pr (l.map (· + 1)) = p at hp
  unfold cnt1
  generalize a * (x + 1) = m at c2
  unfold mn
  by_cases g : 1073741824 < m
  ·have g1 : 1073741824 * 1 ≤ 1073741824 * p := Int.mul_le_mul_of_nonneg_left hp (by omega)
   have g2 : m * 1 ≤ m * p := Int.mul_le_mul_of_nonneg_left hp (by omega)
   rw [if_pos g]
   split <;> split <;> omega
  ·rw [if_neg g]
theorem cnt_small {d : Int} {l : List Int} (h : (d :: l).all okn = true) (hn : cntAll (d :: l) ≤ 300) : cntAll (d :: l) = pr ((d :: l).map (· + 1)) := by
 have e : cntAll (d :: l) = mn (1 * pr ((d :: l).map (· + 1))) 1073741824 := cnt_pr (d :: l) 1 (by decide) (okall h)
 rw [Int.one_mul] at e
 rw [e] at hn ⊢
 generalize pr ((d :: l).map (· + 1)) = p at hn
 unfold mn at *
 by_cases g : 1073741824 < p
 ·rw [if_pos g] at hn; omega
 ·rw [if_neg g]
end Go.Proofs.Ytjobaaolohemgaa.FallAllFall
