/- What the printed functions of layer 3, the program's and the document's, tell of any bytes, by the list of their runes.
  Template: Ytkiokimpblimcaa the seat's name, BatchPlaces the law's key. -/
import Derived.Test.YtkiokimpblimcaaUtf
import Derived.Test.YtkiokimpblimcaaOBatchPlacesx
import Derived.Test.YtkiokimpblimcaaOBatchPlacesp
namespace Go.Proofs.Ytkiokimpblimcaa.BatchPlacesUtf
open Go.RowKit Go.Proofs.YtkiokimpblimcaaW.PrintWords Go.Proofs.YtkiokimpblimcaaW.PrintLast Go.Proofs.YtkiokimpblimcaaW.PrintMore
open Go.Proofs.Ytkiokimpblimcaa.PBatchPlaces Go.Proofs.Ytkiokimpblimcaa.Utf

theorem wrap_id {x : Int} (h : -9223372036854775808 ≤ x) (h' : x ≤ 9223372036854775807) : wrap64 x = x := by unfold wrap64; omega
theorem i64_range {n : Int} (h : (Lit.int .i64 n).wf = true) : -9223372036854775808 ≤ n ∧ n ≤ 9223372036854775807 := by
 simp only [Lit.wf] at h; have := h
 simp [IntKind.min, IntKind.max, IntKind.signed, IntKind.bits] at this
 omega
theorem u8_range {n : Int} (h : (Lit.int .u8 n).wf = true) : 0 ≤ n ∧ n ≤ 255 := by
 simp only [Lit.wf] at h; have := h
 simp [IntKind.min, IntKind.max, IntKind.signed, IntKind.bits] at this
 omega
theorem ev_const {α : Type} {g : Nat → Option α} {r : α} (h : ∀ k, g k = some r) : Ev g r := ⟨0, fun k _ => h k⟩
theorem ev_from {α : Type} {g : Nat → Option α} {r : α} (K : Nat) (h : ∀ k, g (k + K) = some r) : Ev g r := ⟨K, fun k hk => by
 have := h (k - K); rwa [Nat.sub_add_cancel hk] at this⟩
theorem ev_off {α : Type} {g : Nat → Option α} {r : α} (K : Nat) (h : Ev (fun k => g (k + K)) r) : Ev g r := by
 obtain ⟨J, hJ⟩ := h
 exact ⟨J + K, fun k hk => by have := hJ (k - K) (by omega); simp only at this; rwa [Nat.sub_add_cancel (by omega)] at this⟩
theorem ev_bind {α β : Type} {g : Nat → Option α} {f : Nat → α → Option β} {a : α} {r : β} (h : Ev g a) (k : Ev (fun n => f n a) r) : Ev (fun n => (g n).bind (f n)) r := Ev.bind h k
theorem ev_pos {α : Type} {c : Prop} [Decidable c] {a b : Nat → Option α} {r : α} (h : c) (k : Ev a r) : Ev (fun n => if c then a n else b n) r := by
 obtain ⟨K, hK⟩ := k
 exact ⟨K, fun n hn => by simp only [if_pos h]; exact hK n hn⟩
theorem ev_neg {α : Type} {c : Prop} [Decidable c] {a b : Nat → Option α} {r : α} (h : ¬ c) (k : Ev b r) : Ev (fun n => if c then a n else b n) r := by
 obtain ⟨K, hK⟩ := k
 exact ⟨K, fun n hn => by simp only [if_neg h]; exact hK n hn⟩
theorem bytes_at {s : ByteArray} {a : Int} {p t : List Int} (e : bytesOf s = p ++ a :: t) (i : Int) (hi : i = p.length) : bt s i = a := by
 rw [bytes_get, e, hi, Int.toNat_natCast, List.getD_eq_getElem?_getD, List.getElem?_append_right (Nat.le_refl _), Nat.sub_self]; rfl
theorem size_of {s : ByteArray} {l : List Int} (e : bytesOf s = l) : s.size = l.length := by rw [← e, bytes_len]

theorem begins_step1 (k : Nat) (s : ByteArray) (n lo hi : Int) (h1 : 1 < n) (h2 : 1 < (s.size : Int)) :
  utf_begins.l0 (k + 2) s 1 n lo hi = if lo ≤ bt s 1 ∧ bt s 1 ≤ hi then utf_begins.l0 k s 2 n lo hi else some (0, 0) := by
 rw [utf_begins.l0, if_pos h1, utf_begins.j1, if_pos (by simpa using h2), wrap_id (by omega) (by omega), if_pos rfl, if_pos (by omega), if_pos h2]
 by_cases a : bt s 1 < lo
 ·rw [if_pos a, if_neg (by omega)]
 ·rw [if_neg a]
  by_cases b : bt s 1 > hi
  ·rw [if_pos b, if_neg (by omega)]
  ·rw [if_neg b, if_pos (by omega)]; rfl
theorem begins_step2 (k : Nat) (s : ByteArray) (i n lo hi : Int) (h0 : 2 ≤ i) (h4 : i ≤ 4) (h1 : i < n) (h2 : i < (s.size : Int)) :
  utf_begins.l0 (k + 2) s i n lo hi = if In (bt s i) then utf_begins.l0 k s (i + 1) n lo hi else some (0, 0) := by
 rw [utf_begins.l0, if_pos h1, utf_begins.j1, if_pos (by simpa using h2), wrap_id (by omega) (by omega), if_neg (by omega), if_pos (by omega), if_pos h2]
 by_cases a : bt s i < 128
 ·rw [if_pos a, if_neg (by unfold In; omega)]
 ·rw [if_neg a]
  by_cases b : bt s i > 191
  ·rw [if_pos b, if_neg (by unfold In; omega)]
  ·rw [if_neg b, if_pos (by unfold In; omega)]
theorem begins_stop (k : Nat) (s : ByteArray) (i n lo hi : Int) (h : ¬ (i < n ∧ i < (s.size : Int))) :
  utf_begins.l0 (k + 2) s i n lo hi = some (mn s.size n, n) := by
 rw [utf_begins.l0]
 by_cases h1 : i < n
 ·rw [if_pos h1, utf_begins.j1, if_neg (by simp; omega)]
 ·rw [if_neg h1, utf_begins.j1, if_neg (by simp)]

theorem begins_any (s : ByteArray) : Ev (fun k => utf_begins.f k s) (beg (bytesOf s)) := by
 refine ev_from 12 fun k => ?_
 show utf_begins.f (k + 12) s = _
 have hb := bytes_range s
 unfold utf_begins.f
 rcases e : bytesOf s with _ | ⟨a, t⟩
 ·rw [if_pos ((toList_nil s).2 e)]; rfl
 rw [if_neg (fun h => by rw [toList_nil, e] at h; simp at h), if_pos (by rw [size_of e, List.length_cons]; omega)]
 have ha := bytes_at (p := []) e 0 (by simp)
 have hs := size_of e
 rw [e] at hb
 have hr := hb a (by simp)
 rw [ha]
 have first_ : utf_first.f a = some (if a < 128 then (1, 0, 0) else if a < 194 then (0, 0, 0) else if a < 224 then (2, 128, 191) else if a < 240 then (3, if a = 224 then 160 else 128, if a = 237 then 159 else 191) else if a < 245 then (4, if a = 240 then 144 else 128, if a = 244 then 143 else 191) else (0, 0, 0)) := by
  unfold utf_first.f
  repeat' split
  all_goals first | rfl | omega
 rw [first_]
 simp only [Option.bind_some]
 have hmn : ∀ n : Int, mn (s.size : Int) n = if n < s.size then n else s.size := fun n => rfl
 by_cases h1 : a < 128
 ·rw [if_pos h1, begins_stop _ _ _ _ _ _ (by simp)]
  simp only [beg]
  rw [if_pos h1, hmn, hs, List.length_cons]
  split
  ·rfl
  ·congr 2; omega
 rw [if_neg h1]
 by_cases h2 : a < 194
 ·rw [if_pos h2, begins_stop _ _ _ _ _ _ (by simp)]
  simp only [beg]
  rw [if_neg h1, if_pos h2, hmn, if_pos (by rw [hs, List.length_cons]; omega)]
 rw [if_neg h2]
 by_cases h3 : a < 224
 ·rw [if_pos h3]
  simp only [beg]
  rw [if_neg h1, if_neg h2, if_pos h3]
  rcases t with _ | ⟨b, t⟩
  ·rw [begins_stop _ _ _ _ _ _ (by simp [hs]), hmn, if_neg (by simp [hs]), hs]; rfl
  ·have hbt := bytes_at (p := [a]) e 1 (by simp)
   rw [begins_step1 _ _ _ _ _ (by omega) (by rw [hs]; simp; omega), hbt]
   simp only
   by_cases hB : B2 a b
   ·rw [if_pos hB, if_pos (by unfold B2 at hB; omega), begins_stop _ _ _ _ _ _ (by omega), hmn]
    congr 2
    rw [hs]; simp only [List.length_cons]; split <;> omega
   ·rw [if_neg hB, if_neg (by unfold B2 at hB; omega)]
 rw [if_neg h3]
 by_cases h4 : a < 240
 ·rw [if_pos h4]
  simp only [beg]
  rw [if_neg h1, if_neg h2, if_neg h3, if_pos h4]
  rcases t with _ | ⟨b, t⟩
  ·rw [begins_stop _ _ _ _ _ _ (by simp [hs]), hmn, if_neg (by simp [hs]), hs]; rfl
  ·have hbt := bytes_at (p := [a]) e 1 (by simp)
   have hbr := hb b (by simp)
   rw [begins_step1 _ _ _ _ _ (by omega) (by rw [hs]; simp; omega), hbt]
   have eB : ((if a = 224 then 160 else 128) ≤ b ∧ b ≤ (if a = 237 then 159 else 191)) ↔ B2 a b := by unfold B2; split <;> split <;> omega
   simp only [eB]
   rcases t with _ | ⟨c, t⟩
   ·by_cases hB : B2 a b
    ·rw [if_pos hB, begins_stop _ _ _ _ _ _ (by simp [hs]), hmn, if_neg (by simp [hs]), hs]; simp [hB]
    ·rw [if_neg hB]; simp [hB]
   ·have hct := bytes_at (p := [a, b]) e 2 (by simp)
    by_cases hB : B2 a b
    ·rw [if_pos hB, begins_step2 _ _ _ _ _ _ (by omega) (by omega) (by omega) (by rw [hs]; simp; omega), hct]
     by_cases hC : In c
     ·rw [if_pos hC, begins_stop _ _ _ _ _ _ (by omega), hmn]
      simp only [hB, hC, and_self, if_true]
      congr 2
      rw [hs]; simp only [List.length_cons]; split <;> omega
     ·rw [if_neg hC]; simp [hC]
    ·rw [if_neg hB]; simp [hB]
 rw [if_neg h4]
 by_cases h5 : a < 245
 ·rw [if_pos h5]
  simp only [beg]
  rw [if_neg h1, if_neg h2, if_neg h3, if_neg h4, if_pos h5]
  rcases t with _ | ⟨b, t⟩
  ·rw [begins_stop _ _ _ _ _ _ (by simp [hs]), hmn, if_neg (by simp [hs]), hs]; rfl
  ·have hbt := bytes_at (p := [a]) e 1 (by simp)
   have hbr := hb b (by simp)
   rw [begins_step1 _ _ _ _ _ (by omega) (by rw [hs]; simp; omega), hbt]
   have eB : ((if a = 240 then 144 else 128) ≤ b ∧ b ≤ (if a = 244 then 143 else 191)) ↔ B2 a b := by unfold B2; split <;> split <;> omega
   simp only [eB]
   rcases t with _ | ⟨c, t⟩
   ·by_cases hB : B2 a b
    ·rw [if_pos hB, begins_stop _ _ _ _ _ _ (by simp [hs]), hmn, if_neg (by simp [hs]), hs]; simp [hB]
    ·rw [if_neg hB]; simp [hB]
   ·have hct := bytes_at (p := [a, b]) e 2 (by simp)
    by_cases hB : B2 a b
    ·rw [if_pos hB, begins_step2 _ _ _ _ _ _ (by omega) (by omega) (by omega) (by rw [hs]; simp; omega), hct]
     simp only [show (2 : Int) + 1 = 3 from rfl]
     rcases t with _ | ⟨d, t⟩
     ·by_cases hC : In c
      ·rw [if_pos hC, begins_stop _ _ _ _ _ _ (by simp [hs]), hmn, if_neg (by simp [hs]), hs]; simp [hB, hC]
      ·rw [if_neg hC]; simp [hC]
     ·have hdt := bytes_at (p := [a, b, c]) e 3 (by simp)
      by_cases hC : In c
      ·rw [if_pos hC, begins_step2 _ _ _ _ _ _ (by omega) (by omega) (by omega) (by rw [hs]; simp; omega), hdt]
       by_cases hD : In d
       ·rw [if_pos hD, begins_stop _ _ _ _ _ _ (by omega), hmn]
        simp only [hB, hC, hD, and_self, if_true]
        congr 2
        rw [hs]; simp only [List.length_cons]; split <;> omega
       ·rw [if_neg hD]; simp [hD]
      ·rw [if_neg hC]; simp [hC]
    ·rw [if_neg hB]
     rcases t with _ | ⟨d, t⟩ <;> simp [hB]
 ·rw [if_neg h5, begins_stop _ _ _ _ _ _ (by simp)]
  simp only [beg]
  rw [if_neg h1, if_neg h2, if_neg h3, if_neg h4, if_neg h5, hmn, if_pos (by rw [hs, List.length_cons]; omega)]


theorem size_any (s : ByteArray) : Ev (fun k => utf_size.f k s) (if (beg (bytesOf s)).1 < (beg (bytesOf s)).2 then 0 else (beg (bytesOf s)).2) := by
 unfold utf_size.f
 refine ev_bind (begins_any s) ?_
 split <;> exact Ev.now _
theorem size_one {s : ByteArray} {r t : List Int} (h : Rn r) (e : bytesOf s = r ++ t) : Ev (fun k => utf_size.f k s) (r.length : Int) := by
 have := size_any s
 rw [e, beg_one h t] at this
 simpa using this
theorem size_none {s : ByteArray} (h : ∀ r t, Rn r → bytesOf s ≠ r ++ t) : Ev (fun k => utf_size.f k s) 0 := by
 have := size_any s
 rcases beg_cases (bytesOf s) with e | ⟨r, t, hr, e⟩ | hh | ⟨_, e⟩
 ·rw [e] at this; simpa [beg] using this
 ·exact absurd e (h r t hr)
 ·have hb := beg_half hh
  rw [if_pos (by omega)] at this; exact this
 ·rw [e] at this; simpa using this
theorem val_or (l : List Int) : l = [] ∨ (∃ r t, Rn r ∧ l = r ++ t) ∨ (l ≠ [] ∧ ¬ Val l ∧ ∀ r t, Rn r → l ≠ r ++ t) := by
 rcases beg_cases l with e | h | hh | ⟨h, e⟩
 ·exact .inl e
 ·exact .inr (.inl h)
 ·exact .inr (.inr ⟨by rintro rfl; simp [Half] at hh, val_half hh, fun r t hr => half_not_one hh hr⟩)
 ·refine .inr (.inr ⟨h, val_bad h e, ?_⟩)
  rintro r t hr rfl
  rw [beg_one hr t] at e
  have := one_len hr
  have h2 := congrArg Prod.fst e
  simp only at h2
  omega
theorem valid_l (n : Nat) : ∀ s : ByteArray, s.size ≤ n → ∃ b, Ev (fun k => utf_Valid.l0 k s) b ∧ (b = true ↔ Val (bytesOf s)) := by
 induction n with
 | zero =>
  intro s hs
  have e : bytesOf s = [] := List.eq_nil_of_length_eq_zero (by rw [bytes_len]; omega)
  refine ⟨true, ev_from 1 fun k => ?_, by simp [e, val_nil]⟩
  simp only [utf_Valid.l0]
  rw [if_pos ((toList_nil s).2 e)]
 | succ n ih =>
  intro s hs
  rcases val_or (bytesOf s) with e | ⟨r, t, hr, e⟩ | ⟨hne, hv, hno⟩
  ·refine ⟨true, ev_from 1 fun k => ?_, by simp [e, val_nil]⟩
   simp only [utf_Valid.l0]
   rw [if_pos ((toList_nil s).2 e)]
  ·have hl := one_len hr
   have hsz : r.length ≤ s.size := by rw [size_of e, List.length_append]; omega
   have hd : bytesOf (s.extract r.length s.size) = t := by rw [bytes_drop, e, List.drop_left]
   obtain ⟨b, hb, hv⟩ := ih (s.extract r.length s.size) (by rw [← bytes_len, hd]; have := size_of e; rw [List.length_append] at this; omega)
   refine ⟨b, ?_, by rw [hv, hd, e, val_one hr]⟩
   refine Ev.step (f := fun k => (utf_size.f k s).bind fun t116 => (if t116 = 0 then (some false) else (if 0 ≤ t116 then (if t116 ≤ (s.size : Int) then (utf_Valid.l0 k (s.extract (t116 : Int).toNat s.size)) else (none)) else (none)))) (fun k => ?_) ?_
   ·simp only [utf_Valid.l0]
    rw [if_neg (fun h => by rw [toList_nil, e] at h; have := one_ne hr; simp_all)]
   ·refine ev_bind (size_one hr e) ?_
    exact ev_neg (by omega) (ev_pos (by omega) (ev_pos (by omega) hb))
  ·refine ⟨false, ?_, by simp [hv]⟩
   refine Ev.step (f := fun k => (utf_size.f k s).bind fun t116 => (if t116 = 0 then (some false) else (if 0 ≤ t116 then (if t116 ≤ (s.size : Int) then (utf_Valid.l0 k (s.extract (t116 : Int).toNat s.size)) else (none)) else (none)))) (fun k => ?_) ?_
   ·simp only [utf_Valid.l0]
    rw [if_neg (fun h => by rw [toList_nil] at h; exact hne h)]
   ·refine ev_bind (size_none hno) ?_
    simp only [↓reduceIte]
    exact Ev.now _
theorem valid_yes {s : ByteArray} (h : Val (bytesOf s)) : Ev (fun k => utf_Valid.f k s) true := by
 obtain ⟨b, hb, hv⟩ := valid_l s.size s (Nat.le_refl _)
 rw [← hv.2 h]; exact hb
theorem valid_no {s : ByteArray} (h : ¬ Val (bytesOf s)) : Ev (fun k => utf_Valid.f k s) false := by
 obtain ⟨b, hb, hv⟩ := valid_l s.size s (Nat.le_refl _)
 cases b
 ·exact hb
 ·exact absurd (hv.1 rfl) h

theorem flat_len (rs : List (List Int)) (h : All rs) : rs.length ≤ rs.flatten.length := by
 induction rs with
 | nil => simp
 | cons r rs ih =>
  have := one_len h.head
  have := ih h.tail
  simp only [List.flatten_cons, List.length_append, List.length_cons]; omega
theorem flat_lt {xs ys : List (List Int)} (h : All ys) (hne : ys ≠ []) : xs.flatten.length < (xs ++ ys).flatten.length := by
 rcases ys with _ | ⟨r, ys⟩
 ·exact absurd rfl hne
 ·have := one_len h.head
  simp only [List.flatten_append, List.flatten_cons, List.length_append]; omega
/-- A place: where it parts the runes. -/
def Is (rs : List (List Int)) (at_ : Int) (xs ys : List (List Int)) : Prop := rs = xs ++ ys ∧ at_ = xs.flatten.length
theorem is_inj {rs xs ys xs' ys' : List (List Int)} {at_ : Int} (h : All rs) (a : Is rs at_ xs ys) (b : Is rs at_ xs' ys') : xs = xs' ∧ ys = ys' := by
 obtain ⟨rfl, a2⟩ := a
 obtain ⟨e, b2⟩ := b
 have hx := runes_inj (rs := xs) (rs' := xs') h.left (by rw [e] at h; exact h.left) (by
  have h1 : (xs ++ ys).flatten.take xs.flatten.length = xs.flatten := by rw [List.flatten_append, List.take_left]
  have h2 : (xs' ++ ys').flatten.take xs'.flatten.length = xs'.flatten := by rw [List.flatten_append, List.take_left]
  rw [← h1, ← h2, e]
  congr 1; omega)
 subst hx
 exact ⟨rfl, List.append_cancel_left e⟩
theorem cum_at {rs : List (List Int)} (j : Nat) (hj : j < rs.length + 1) : (cum 0 rs).getD j 0 = ((rs.take j).flatten.length : Int) := by
 have := cum_get 0 (rs.take j) (rs.drop j)
 rw [List.take_append_drop, List.length_take, Nat.min_eq_left (by omega)] at this
 omega
theorem inner_any (a : Int) (h : 0 ≤ a ∧ a ≤ 255) : utf_inner.f a = some (decide (In a)) := by
 have all : ∀ n : Fin 256, ((Go.bits .and .u8 ((n.val : Nat) : Int) 192) == 128) = decide (In ((n.val : Nat) : Int)) := by decide +kernel
 have := all ⟨a.toNat, by omega⟩
 simp only [Int.toNat_of_nonneg h.1] at this
 unfold utf_inner.f
 rw [this]
theorem place_bad {s : ByteArray} {at_ : Int} (h : ¬ Val (bytesOf s)) : Ev (fun k => utf_Place.f k s at_) false := by
 unfold utf_Place.f
 by_cases h0 : at_ ≥ 0
 ·refine ev_pos h0 ?_
  by_cases h1 : at_ ≤ (s.size : Int)
  ·refine ev_pos h1 ?_
   by_cases h2 : at_ = (s.size : Int)
   ·exact ev_pos h2 (ev_bind (valid_no h) (Ev.now _))
   ·refine ev_neg h2 (ev_pos (by omega) (ev_pos (by omega) ?_))
    rw [inner_any _ (bt_range s at_)]
    simp only [Option.bind_some]
    by_cases hi : In (bt s at_)
    ·exact ev_pos (by simpa using hi) (Ev.now _)
    ·exact ev_neg (by simpa using hi) (ev_bind (valid_no h) (Ev.now _))
  ·exact ev_neg h1 (Ev.now _)
 ·exact ev_neg h0 (Ev.now _)
theorem place_in {s : ByteArray} {rs : List (List Int)} (h : All rs) (e : bytesOf s = rs.flatten) (i : Nat) (hi : i < s.size) :
  ∃ xs r ys j, rs = xs ++ r :: ys ∧ i = xs.flatten.length + j ∧ j < r.length ∧ (In (bt s (i : Int)) ↔ 0 < j) := by
 obtain ⟨xs, r, ys, j, a, b, c⟩ := locate rs i (by rw [← e, bytes_len]; exact hi)
 refine ⟨xs, r, ys, j, a, b, c, ?_⟩
 rw [bytes_get, e, Int.toNat_natCast]
 exact inner_at h a b c
theorem place_yes {s : ByteArray} {rs xs ys : List (List Int)} {at_ : Int} (h : All rs) (e : bytesOf s = rs.flatten) (a : Is rs at_ xs ys) : Ev (fun k => utf_Place.f k s at_) true := by
 have hv : Val (bytesOf s) := ⟨rs, h, e⟩
 have hsz : s.size = rs.flatten.length := by rw [← e, bytes_len]
 have hle : xs.flatten.length ≤ s.size := by rw [hsz, a.1, List.flatten_append, List.length_append]; omega
 unfold utf_Place.f
 refine ev_pos (by have := a.2; omega) (ev_pos (by have := a.2; omega) ?_)
 by_cases h2 : at_ = (s.size : Int)
 ·exact ev_pos h2 (ev_bind (valid_yes hv) (Ev.now _))
 ·refine ev_neg h2 (ev_pos (by have := a.2; omega) (ev_pos (by have := a.2; omega) ?_))
  obtain ⟨xs', r, ys', j, q1, q2, q3, q4⟩ := place_in h e xs.flatten.length (by have := a.2; omega)
  have hj : j = 0 := by
   rcases Nat.eq_zero_or_pos j with hj | hj
   ·exact hj
   ·exfalso
    rcases Nat.lt_trichotomy xs.length xs'.length with g | g | g
    ·have : xs <+: xs' := List.prefix_of_prefix_length_le (l₃ := rs) ⟨ys, a.1.symm⟩ ⟨r :: ys', q1.symm⟩ (by omega)
     obtain ⟨z, rfl⟩ := this
     rw [List.flatten_append, List.length_append] at q2
     omega
    ·have := List.append_inj (a.1.symm.trans q1) g
     rw [this.1] at q2; omega
    ·have : xs' ++ [r] <+: xs := List.prefix_of_prefix_length_le (l₃ := rs) ⟨ys', by rw [q1]; simp⟩ ⟨ys, a.1.symm⟩ (by simp; omega)
     obtain ⟨z, rfl⟩ := this
     simp only [List.flatten_append, List.flatten_cons, List.flatten_nil, List.append_nil, List.length_append] at q2
     omega
  have hi : ¬ In (bt s at_) := by rw [a.2, q4]; omega
  rw [inner_any _ (bt_range s at_)]
  simp only [Option.bind_some]
  exact ev_neg (by simpa using hi) (ev_bind (valid_yes hv) (Ev.now _))
theorem place_not {s : ByteArray} {rs : List (List Int)} {at_ : Int} (h : All rs) (e : bytesOf s = rs.flatten) (a : ∀ xs ys, ¬ Is rs at_ xs ys) : Ev (fun k => utf_Place.f k s at_) false := by
 have hsz : s.size = rs.flatten.length := by rw [← e, bytes_len]
 unfold utf_Place.f
 by_cases h0 : at_ ≥ 0
 ·refine ev_pos h0 ?_
  by_cases h1 : at_ ≤ (s.size : Int)
  ·refine ev_pos h1 ?_
   by_cases h2 : at_ = (s.size : Int)
   ·exact absurd ⟨(List.append_nil rs).symm, by rw [h2, hsz]⟩ (a rs [])
   ·refine ev_neg h2 (ev_pos (by omega) (ev_pos (by omega) ?_))
    obtain ⟨xs, r, ys, j, q1, q2, q3, q4⟩ := place_in h e at_.toNat (by omega)
    rw [Int.toNat_of_nonneg h0] at q4
    have hj : 0 < j := by
     rcases Nat.eq_zero_or_pos j with hj | hj
     ·exact absurd ⟨q1, by omega⟩ (a xs (r :: ys))
     ·exact hj
    rw [inner_any _ (bt_range s at_)]
    simp only [Option.bind_some]
    exact ev_pos (by simpa using q4.2 hj) (Ev.now _)
  ·exact ev_neg h1 (Ev.now _)
 ·exact ev_neg h0 (Ev.now _)
end Go.Proofs.Ytkiokimpblimcaa.BatchPlacesUtf
