/- What the printed functions of layer 3, the program's and the document's, tell of any bytes, by the list of their runes.
  Template: Ytealbonfaebikaa the seat's name, KeyTexts the law's key. -/
import Derived.Test.YtealbonfaebikaaOpen
import Derived.Test.YtealbonfaebikaaUtf
import Derived.Test.YtealbonfaebikaaOKeyTextsx
namespace Go.Proofs.Ytealbonfaebikaa.KeyTextsUtf
open Go.RowKit Go.Proofs.YtealbonfaebikaaW.PrintWords Go.Proofs.YtealbonfaebikaaW.PrintLast Go.Proofs.YtealbonfaebikaaW.PrintMore
open Go.Proofs.Ytealbonfaebikaa.PKeyTexts Go.Proofs.Ytealbonfaebikaa.Utf

theorem wrap_id {x : Int} (h : -9223372036854775808 ≤ x) (h' : x ≤ 9223372036854775807) : wrap64 x = x := by unfold wrap64; omega
theorem i64_range {n : Int} (h : (Lit.int .i64 n).wf = true) : -9223372036854775808 ≤ n ∧ n ≤ 9223372036854775807 := by
 simp only [Lit.wf] at h; have := h
 simp [IntKind.min, IntKind.max, IntKind.signed, IntKind.bits] at this
 omega
theorem u8_range {n : Int} (h : (Lit.int .u8 n).wf = true) : 0 ≤ n ∧ n ≤ 255 := by
 simp only [Lit.wf] at h; have := h
 simp [IntKind.min, IntKind.max, IntKind.signed, IntKind.bits] at this
 omega
theorem ev_const {α : Type} {g : Nat → Option α} {r : α} (h : ∀ k, g k = some r) : Ev g r := ⟨0, fun k _ => h k⟩
theorem ev_from {α : Type} {g : Nat → Option α} {r : α} (K : Nat) (h : ∀ k, g (k + K) = some r) : Ev g r := ⟨K, fun k hk => by
 have := h (k - K); rwa [Nat.sub_add_cancel hk] at this⟩
theorem ev_off {α : Type} {g : Nat → Option α} {r : α} (K : Nat) (h : Ev (fun k => g (k + K)) r) : Ev g r := by
 obtain ⟨J, hJ⟩ := h
 exact ⟨J + K, fun k hk => by have := hJ (k - K) (by omega); simp only at this; rwa [Nat.sub_add_cancel (by omega)] at this⟩
theorem ev_bind {α β : Type} {g : Nat → Option α} {f : Nat → α → Option β} {a : α} {r : β} (h : Ev g a) (k : Ev (fun n => f n a) r) : Ev (fun n => (g n).bind (f n)) r := Ev.bind h k
theorem ev_pos {α : Type} {c : Prop} [Decidable c] {a b : Nat → Option α} {r : α} (h : c) (k : Ev a r) : Ev (fun n => if c then a n else b n) r := by
 obtain ⟨K, hK⟩ := k
 exact ⟨K, fun n hn => by simp only [if_pos h]; exact hK n hn⟩
theorem ev_neg {α : Type} {c : Prop} [Decidable c] {a b : Nat → Option α} {r : α} (h : ¬ c) (k : Ev b r) : Ev (fun n => if c then a n else b n) r := by
 obtain ⟨K, hK⟩ := k
 exact ⟨K, fun n hn => by simp only [if_neg h]; exact hK n hn⟩
theorem bytes_at {s : ByteArray} {a : Int} {p t : List Int} (e : bytesOf s = p ++ a :: t) (i : Int) (hi : i = p.length) : bt s i = a := by
 rw [bytes_get, e, hi, Int.toNat_natCast, List.getD_eq_getElem?_getD, List.getElem?_append_right (Nat.le_refl _), Nat.sub_self]; rfl
theorem size_of {s : ByteArray} {l : List Int} (e : bytesOf s = l) : s.size = l.length := by rw [← e, bytes_len]

theorem begins_step1 (k : Nat) (s : ByteArray) (n lo hi : Int) (h1 : 1 < n) (h2 : 1 < (s.size : Int)) :
  utf_begins.l0 (k + 2) s 1 n lo hi = if lo ≤ bt s 1 ∧ bt s 1 ≤ hi then utf_begins.l0 k s 2 n lo hi else some (0, 0) := by
 rw [utf_begins.l0, if_pos h1, utf_begins.j1, if_pos (by simpa using h2), wrap_id (by omega) (by omega), if_pos rfl, if_pos (by omega), if_pos h2]
 by_cases a : bt s 1 < lo
 ·rw [if_pos a, if_neg (by omega)]
 ·rw [if_neg a]
  by_cases b : bt s 1 > hi
  ·rw [if_pos b, if_neg (by omega)]
  ·rw [if_neg b, if_pos (by omega)]; rfl
theorem begins_step2 (k : Nat) (s : ByteArray) (i n lo hi : Int) (h0 : 2 ≤ i) (h4 : i ≤ 4) (h1 : i < n) (h2 : i < (s.size : Int)) :
  utf_begins.l0 (k + 2) s i n lo hi = if In (bt s i) then utf_begins.l0 k s (i + 1) n lo hi else some (0, 0) := by
 rw [utf_begins.l0, if_pos h1, utf_begins.j1, if_pos (by simpa using h2), wrap_id (by omega) (by omega), if_neg (by omega), if_pos (by omega), if_pos h2]
 by_cases a : bt s i < 128
 ·rw [if_pos a, if_neg (by unfold In; omega)]
 ·rw [if_neg a]
  by_cases b : bt s i > 191
  ·rw [if_pos b, if_neg (by unfold In; omega)]
  ·rw [if_neg b, if_pos (by unfold In; omega)]
theorem begins_stop (k : Nat) (s : ByteArray) (i n lo hi : Int) (h : ¬ (i < n ∧ i < (s.size : Int))) :
  utf_begins.l0 (k + 2) s i n lo hi = some (mn s.size n, n) := by
 rw [utf_begins.l0]
 by_cases h1 : i < n
 ·rw [if_pos h1, utf_begins.j1, if_neg (by simp; omega)]
 ·rw [if_neg h1, utf_begins.j1, if_neg (by simp)]

theorem begins_any (s : ByteArray) : Ev (fun k => utf_begins.f k s) (beg (bytesOf s)) := by
 refine ev_from 12 fun k => ?_
 show utf_begins.f (k + 12) s = _
 have hb := bytes_range s
 unfold utf_begins.f
 rcases e : bytesOf s with _ | ⟨a, t⟩
 ·rw [if_pos ((toList_nil s).2 e)]; rfl
 rw [if_neg (fun h => by rw [toList_nil, e] at h; simp at h), if_pos (by rw [size_of e, List.length_cons]; omega)]
 have ha := bytes_at (p := []) e 0 (by simp)
 have hs := size_of e
 rw [e] at hb
 have hr := hb a (by simp)
 rw [ha]
 have first_ : utf_first.f a = some (if a < 128 then (1, 0, 0) else if a < 194 then (0, 0, 0) else if a < 224 then (2, 128, 191) else if a < 240 then (3, if a = 224 then 160 else 128, if a = 237 then 159 else 191) else if a < 245 then (4, if a = 240 then 144 else 128, if a = 244 then 143 else 191) else (0, 0, 0)) := by
  unfold utf_first.f
  repeat' split
  all_goals first | rfl | omega
 rw [first_]
 simp only [Option.bind_some]
 have hmn : ∀ n : Int, mn (s.size : Int) n = if n < s.size then n else s.size := fun n => rfl
 by_cases h1 : a < 128
 ·rw [if_pos h1, begins_stop _ _ _ _ _ _ (by simp)]
  simp only [beg]
  rw [if_pos h1, hmn, hs, List.length_cons]
  split
  ·rfl
  ·congr 2; omega
 rw [if_neg h1]
 by_cases h2 : a < 194
 ·rw [if_pos h2, begins_stop _ _ _ _ _ _ (by simp)]
  simp only [beg]
  rw [if_neg h1, if_pos h2, hmn, if_pos (by rw [hs, List.length_cons]; omega)]
 rw [if_neg h2]
 by_cases h3 : a < 224
 ·rw [if_pos h3]
  simp only [beg]
  rw [if_neg h1, if_neg h2, if_pos h3]
  rcases t with _ | ⟨b, t⟩
  ·rw [begins_stop _ _ _ _ _ _ (by simp [hs]), hmn, if_neg (by simp [hs]), hs]; rfl
  ·have hbt := bytes_at (p := [a]) e 1 (by simp)
   rw [begins_step1 _ _ _ _ _ (by omega) (by rw [hs]; simp; omega), hbt]
   simp only
   by_cases hB : B2 a b
   ·rw [if_pos hB, if_pos (by unfold B2 at hB; omega), begins_stop _ _ _ _ _ _ (by omega), hmn]
    congr 2
    rw [hs]; simp only [List.length_cons]; split <;> omega
   ·rw [if_neg hB, if_neg (by unfold B2 at hB; omega)]
 rw [if_neg h3]
 by_cases h4 : a < 240
 ·rw [if_pos h4]
  simp only [beg]
  rw [if_neg h1, if_neg h2, if_neg h3, if_pos h4]
  rcases t with _ | ⟨b, t⟩
  ·rw [begins_stop _ _ _ _ _ _ (by simp [hs]), hmn, if_neg (by simp [hs]), hs]; rfl
  ·have hbt := bytes_at (p := [a]) e 1 (by simp)
   have hbr := hb b (by simp)
   rw [begins_step1 _ _ _ _ _ (by omega) (by rw [hs]; simp; omega), hbt]
   have eB : ((if a = 224 then 160 else 128) ≤ b ∧ b ≤ (if a = 237 then 159 else 191)) ↔ B2 a b := by unfold B2; split <;> split <;> omega
   simp only [eB]
   rcases t with _ | ⟨c, t⟩
   ·by_cases hB : B2 a b
    ·rw [if_pos hB, begins_stop _ _ _ _ _ _ (by simp [hs]), hmn, if_neg (by simp [hs]), hs]; simp [hB]
    ·rw [if_neg hB]; simp [hB]
   ·have hct := bytes_at (p := [a, b]) e 2 (by simp)
    by_cases hB : B2 a b
    ·rw [if_pos hB, begins_step2 _ _ _ _ _ _ (by omega) (by omega) (by omega) (by rw [hs]; simp; omega), hct]
     by_cases hC : In c
     ·rw [if_pos hC, begins_stop _ _ _ _ _ _ (by omega), hmn]
      simp only [hB, hC, and_self, if_true]
      congr 2
      rw [hs]; simp only [List.length_cons]; split <;> omega
     ·rw [if_neg hC]; simp [hC]
    ·rw [if_neg hB]; simp [hB]
 rw [if_neg h4]
 by_cases h5 : a < 245
 ·rw [if_pos h5]
  simp only [beg]
  rw [if_neg h1, if_neg h2, if_neg h3, if_neg h4, if_pos h5]
  rcases t with _ | ⟨b, t⟩
  ·rw [begins_stop _ _ _ _ _ _ (by simp [hs]), hmn, if_neg (by simp [hs]), hs]; rfl
  ·have hbt := bytes_at (p := [a]) e 1 (by simp)
   have hbr := hb b (by simp)
   rw [begins_step1 _ _ _ _ _ (by omega) (by rw [hs]; simp; omega), hbt]
   have eB : ((if a = 240 then 144 else 128) ≤ b ∧ b ≤ (if a = 244 then 143 else 191)) ↔ B2 a b := by unfold B2; split <;> split <;> omega
   simp only [eB]
   rcases t with _ | ⟨c, t⟩
   ·by_cases hB : B2 a b
    ·rw [if_pos hB, begins_stop _ _ _ _ _ _ (by simp [hs]), hmn, if_neg (by simp [hs]), hs]; simp [hB]
    ·rw [if_neg hB]; simp [hB]
   ·have hct := bytes_at (p := [a, b]) e 2 (by simp)
    by_cases hB : B2 a b
    ·rw [if_pos hB, begins_step2 _ _ _ _ _ _ (by omega) (by omega) (by omega) (by rw [hs]; simp; omega), hct]
     simp only [show (2 : Int) + 1 = 3 from rfl]
     rcases t with _ | ⟨d, t⟩
     ·by_cases hC : In c
      ·rw [if_pos hC, begins_stop _ _ _ _ _ _ (by simp [hs]), hmn, if_neg (by simp [hs]), hs]; simp [hB, hC]
      ·rw [if_neg hC]; simp [hC]
     ·have hdt := bytes_at (p := [a, b, c]) e 3 (by simp)
      by_cases hC : In c
      ·rw [if_pos hC, begins_step2 _ _ _ _ _ _ (by omega) (by omega) (by omega) (by rw [hs]; simp; omega), hdt]
       by_cases hD : In d
       ·rw [if_pos hD, begins_stop _ _ _ _ _ _ (by omega), hmn]
        simp only [hB, hC, hD, and_self, if_true]
        congr 2
        rw [hs]; simp only [List.length_cons]; split <;> omega
       ·rw [if_neg hD]; simp [hD]
      ·rw [if_neg hC]; simp [hC]
    ·rw [if_neg hB]
     rcases t with _ | ⟨d, t⟩ <;> simp [hB]
 ·rw [if_neg h5, begins_stop _ _ _ _ _ _ (by simp)]
  simp only [beg]
  rw [if_neg h1, if_neg h2, if_neg h3, if_neg h4, if_neg h5, hmn, if_pos (by rw [hs, List.length_cons]; omega)]


theorem size_any (s : ByteArray) : Ev (fun k => utf_size.f k s) (if (beg (bytesOf s)).1 < (beg (bytesOf s)).2 then 0 else (beg (bytesOf s)).2) := by
 unfold utf_size.f
 refine ev_bind (begins_any s) ?_
 split <;> exact Ev.now _
theorem size_one {s : ByteArray} {r t : List Int} (h : Rn r) (e : bytesOf s = r ++ t) : Ev (fun k => utf_size.f k s) (r.length : Int) := by
 have := size_any s
 rw [e, beg_one h t] at this
 simpa using this
theorem size_none {s : ByteArray} (h : ∀ r t, Rn r → bytesOf s ≠ r ++ t) : Ev (fun k => utf_size.f k s) 0 := by
 have := size_any s
 rcases beg_cases (bytesOf s) with e | ⟨r, t, hr, e⟩ | hh | ⟨_, e⟩
 ·rw [e] at this; simpa [beg] using this
 ·exact absurd e (h r t hr)
 ·have hb := beg_half hh
  rw [if_pos (by omega)] at this; exact this
 ·rw [e] at this; simpa using this
theorem val_or (l : List Int) : l = [] ∨ (∃ r t, Rn r ∧ l = r ++ t) ∨ (l ≠ [] ∧ ¬ Val l ∧ ∀ r t, Rn r → l ≠ r ++ t) := by
 rcases beg_cases l with e | h | hh | ⟨h, e⟩
 ·exact .inl e
 ·exact .inr (.inl h)
 ·exact .inr (.inr ⟨by rintro rfl; simp [Half] at hh, val_half hh, fun r t hr => half_not_one hh hr⟩)
 ·refine .inr (.inr ⟨h, val_bad h e, ?_⟩)
  rintro r t hr rfl
  rw [beg_one hr t] at e
  have := one_len hr
  have h2 := congrArg Prod.fst e
  simp only at h2
  omega
theorem valid_l (n : Nat) : ∀ s : ByteArray, s.size ≤ n → ∃ b, Ev (fun k => utf_Valid.l0 k s) b ∧ (b = true ↔ Val (bytesOf s)) := by
 induction n with
 | zero =>
  intro s hs
  have e : bytesOf s = [] := List.eq_nil_of_length_eq_zero (by rw [bytes_len]; omega)
  refine ⟨true, ev_from 1 fun k => ?_, by simp [e, val_nil]⟩
  simp only [utf_Valid.l0]
  rw [if_pos ((toList_nil s).2 e)]
 | succ n ih =>
  intro s hs
  rcases val_or (bytesOf s) with e | ⟨r, t, hr, e⟩ | ⟨hne, hv, hno⟩
  ·refine ⟨true, ev_from 1 fun k => ?_, by simp [e, val_nil]⟩
   simp only [utf_Valid.l0]
   rw [if_pos ((toList_nil s).2 e)]
  ·have hl := one_len hr
   have hsz : r.length ≤ s.size := by rw [size_of e, List.length_append]; omega
   have hd : bytesOf (s.extract r.length s.size) = t := by rw [bytes_drop, e, List.drop_left]
   obtain ⟨b, hb, hv⟩ := ih (s.extract r.length s.size) (by rw [← bytes_len, hd]; have := size_of e; rw [List.length_append] at this; omega)
   refine ⟨b, ?_, by rw [hv, hd, e, val_one hr]⟩
   refine Ev.step (f := fun k => (utf_size.f k s).bind fun t116 => (if t116 = 0 then (some false) else (if 0 ≤ t116 then (if t116 ≤ (s.size : Int) then (utf_Valid.l0 k (s.extract (t116 : Int).toNat s.size)) else (none)) else (none)))) (fun k => ?_) ?_
   ·simp only [utf_Valid.l0]
    rw [if_neg (fun h => by rw [toList_nil, e] at h; have := one_ne hr; simp_all)]
   ·refine ev_bind (size_one hr e) ?_
    exact ev_neg (by omega) (ev_pos (by omega) (ev_pos (by omega) hb))
  ·refine ⟨false, ?_, by simp [hv]⟩
   refine Ev.step (f := fun k => (utf_size.f k s).bind fun t116 => (if t116 = 0 then (some false) else (if 0 ≤ t116 then (if t116 ≤ (s.size : Int) then (utf_Valid.l0 k (s.extract (t116 : Int).toNat s.size)) else (none)) else (none)))) (fun k => ?_) ?_
   ·simp only [utf_Valid.l0]
    rw [if_neg (fun h => by rw [toList_nil] at h; exact hne h)]
   ·refine ev_bind (size_none hno) ?_
    simp only [↓reduceIte]
    exact Ev.now _
theorem valid_yes {s : ByteArray} (h : Val (bytesOf s)) : Ev (fun k => utf_Valid.f k s) true := by
 obtain ⟨b, hb, hv⟩ := valid_l s.size s (Nat.le_refl _)
 rw [← hv.2 h]; exact hb
theorem valid_no {s : ByteArray} (h : ¬ Val (bytesOf s)) : Ev (fun k => utf_Valid.f k s) false := by
 obtain ⟨b, hb, hv⟩ := valid_l s.size s (Nat.le_refl _)
 cases b
 ·exact hb
 ·exact absurd (hv.1 rfl) h

theorem number_one {s : ByteArray} {a : Int} (e : bytesOf s = [a]) : Ev (fun k => calamusref03_number.f k s) a := by
 refine ev_const fun k => ?_
 have hb := bytes_range s
 rw [e] at hb
 have hr := hb a (by simp)
 have ha := bytes_at (p := []) e 0 (by simp)
 unfold calamusref03_number.f
 rw [if_pos (by rw [size_of e]; rfl), if_pos (by rw [size_of e]; simp), ha, wrap_id (by omega) (by omega)]
theorem number_end (k : Nat) (s : ByteArray) (n i : Int) (h : ¬ i < (s.size : Int)) : calamusref03_number.l0 (k + 1) s n i = some n := by
 rw [calamusref03_number.l0, if_neg h]
theorem number_first (k : Nat) (s : ByteArray) (a : Int) (ha : bt s 0 = a) (hr : 0 ≤ a ∧ a ≤ 255) (h2 : 2 ≤ s.size) (h4 : s.size ≤ 4) :
  calamusref03_number.l0 (k + 1) s 0 0 = if a < (if s.size = 2 then 192 else if s.size = 3 then 224 else 240) then some (-1) else calamusref03_number.l0 k s (a - (if s.size = 2 then 192 else if s.size = 3 then 224 else 240)) 1 := by
 rw [calamusref03_number.l0, if_pos (by omega), if_pos (by omega), if_pos rfl]
 simp only [Option.bind_some]
 rw [if_pos (by omega), if_pos (by simp; omega), ha]
 have hrd : rd [0, 0, 192, 224, 240] (s.size : Int) = (if s.size = 2 then 192 else if s.size = 3 then 224 else 240) := by
  have h : s.size = 2 ∨ s.size = 3 ∨ s.size = 4 := by omega
  rcases h with h | h | h <;> rw [h] <;> rfl
 rw [hrd]
 have hx : (192 : Int) ≤ (if s.size = 2 then 192 else if s.size = 3 then 224 else 240) ∧ (if s.size = 2 then 192 else if s.size = 3 then 224 else 240) ≤ (240 : Int) := by (constructor <;> (repeat' split)) <;> omega
 generalize (if s.size = 2 then 192 else if s.size = 3 then 224 else (240 : Int)) = x at *
 rw [wrap_id (x := a) (by omega) (by omega), wrap_id (x := a - x) (by omega) (by omega)]
 by_cases h : a < x
 ·rw [if_pos h, if_pos (by omega)]
 ·rw [if_neg h, if_neg (by omega), wrap_id (x := 64 * 0) (by omega) (by omega), wrap_id (x := 64 * 0 + (a - x)) (by omega) (by omega), wrap_id (x := 0 + 1) (by omega) (by omega)]
  simp
theorem number_next (k : Nat) (s : ByteArray) (n i i1 b : Int) (hi : i + 1 = i1) (hb : bt s i = b) (hr : 0 ≤ b ∧ b ≤ 255) (h1 : 1 ≤ i) (h4 : i < (s.size : Int)) (hs : s.size ≤ 4) (hn : 0 ≤ n ∧ n ≤ 1000000) :
  calamusref03_number.l0 (k + 2) s n i = if In b then calamusref03_number.l0 k s (64 * n + (b - 128)) i1 else some (-1) := by
 subst hi
 rw [calamusref03_number.l0, if_pos h4, if_pos (by omega), if_neg (by omega), hb, wrap_id (x := b) (by omega) (by omega), wrap_id (x := b - 128) (by omega) (by omega)]
 by_cases h : b - 128 < 0
 ·rw [if_pos h, calamusref03_number.j1, if_pos rfl, if_neg (by unfold In; omega)]
 ·rw [if_neg h]
  by_cases h' : b - 128 > 63
  ·rw [calamusref03_number.j1, if_pos (by simpa using h'), if_neg (by unfold In; omega)]
  ·rw [calamusref03_number.j1, if_neg (by simpa using h'), if_neg h, if_pos (by unfold In; omega), wrap_id (x := 64 * n) (by omega) (by omega), wrap_id (x := 64 * n + (b - 128)) (by omega) (by omega), wrap_id (x := i + 1) (by omega) (by omega)]

def runeOf (n : Int) : List Int :=
 if n < 0 ∨ n > 1114111 ∨ (n ≥ 55296 ∧ n < 57344) then [] else if n < 128 then [n] else if n < 2048 then [192 + n / 64, 128 + n % 64]
 else if n < 65536 then [224 + n / 4096, 128 + n / 64 % 64, 128 + n % 64] else [240 + n / 262144, 128 + n / 4096 % 64, 128 + n / 64 % 64, 128 + n % 64]
theorem bytes_j0 (k : Nat) (n : Int) (h : 0 ≤ n ∧ n ≤ 1114111) (b : Bool) : calamusref03_Bytes.j0 (k + 1) n b = some (strOfNums (if b = true then [] else if n < 128 then [n] else if n < 2048 then [192 + n / 64, 128 + n % 64]
  else if n < 65536 then [224 + n / 4096, 128 + n / 64 % 64, 128 + n % 64] else [240 + n / 262144, 128 + n / 4096 % 64, 128 + n / 64 % 64, 128 + n % 64])) := by
 rw [calamusref03_Bytes.j0]
 have d1 : Int.tdiv n 64 = n / 64 := Int.tdiv_eq_ediv_of_nonneg h.1
 have d2 : Int.tdiv n 4096 = n / 4096 := Int.tdiv_eq_ediv_of_nonneg h.1
 have d3 : Int.tdiv n 262144 = n / 262144 := Int.tdiv_eq_ediv_of_nonneg h.1
 have m1 : Int.tmod n 64 = n % 64 := Int.tmod_eq_emod_of_nonneg h.1
 have m2 : Int.tmod (n / 64) 64 = n / 64 % 64 := Int.tmod_eq_emod_of_nonneg (by omega)
 have m3 : Int.tmod (n / 4096) 64 = n / 4096 % 64 := Int.tmod_eq_emod_of_nonneg (by omega)
 rw [d1, d2, d3, m1, wrap_id (x := n / 64) (by omega) (by omega), wrap_id (x := n / 4096) (by omega) (by omega), wrap_id (x := n / 262144) (by omega) (by omega), m2, m3]
 cases b
 ·simp only [Bool.false_eq_true, if_false]
  by_cases h1 : n < 128
  ·rw [if_pos h1, if_pos h1]; congr 3; omega
  rw [if_neg h1, if_neg h1]
  by_cases h2 : n < 2048
  ·rw [if_pos h2, if_pos h2, wrap_id (x := 192 + n / 64) (by omega) (by omega), wrap_id (x := 128 + n % 64) (by omega) (by omega)]
   congr 3
   ·omega
   ·congr 1; omega
  rw [if_neg h2, if_neg h2]
  by_cases h3 : n < 65536
  ·rw [if_pos h3, if_pos h3, wrap_id (x := 224 + n / 4096) (by omega) (by omega), wrap_id (x := 128 + n / 64 % 64) (by omega) (by omega), wrap_id (x := 128 + n % 64) (by omega) (by omega)]
   congr 3
   ·omega
   ·congr 1
    ·omega
    ·congr 1; omega
  rw [if_neg h3, if_neg h3, wrap_id (x := 240 + n / 262144) (by omega) (by omega), wrap_id (x := 128 + n / 4096 % 64) (by omega) (by omega), wrap_id (x := 128 + n / 64 % 64) (by omega) (by omega), wrap_id (x := 128 + n % 64) (by omega) (by omega)]
  congr 3
  ·omega
  ·congr 1
   ·omega
   ·congr 1
    ·omega
    ·congr 1; omega
 ·rfl
theorem bytes_any (n : Int) : Ev (fun k => calamusref03_Bytes.f k n) (strOfNums (runeOf n)) := by
 refine ev_from 1 fun k => ?_
 show calamusref03_Bytes.f (k + 1) n = _
 unfold calamusref03_Bytes.f runeOf
 by_cases h1 : n < 0
 ·rw [if_pos h1, if_pos (.inl h1), calamusref03_Bytes.j0, if_pos rfl]; rfl
 rw [if_neg h1]
 by_cases h2 : n > 1114111
 ·rw [if_pos h2, if_pos (.inr (.inl h2)), calamusref03_Bytes.j0, if_pos rfl]; rfl
 rw [if_neg h2]
 by_cases h3 : n ≥ 55296
 ·rw [if_pos h3, bytes_j0 _ _ (by omega)]
  by_cases h4 : n < 57344
  ·rw [if_pos (by simpa using h4), if_pos (by omega)]
  ·have hc : ¬ (n < 0 ∨ n > 1114111 ∨ (n ≥ 55296 ∧ n < 57344)) := by omega
   rw [if_neg (by simpa using h4), if_neg hc]
 ·have hc : ¬ (n < 0 ∨ n > 1114111 ∨ (n ≥ 55296 ∧ n < 57344)) := by omega
  rw [if_neg h3, bytes_j0 _ _ (by omega), if_neg (by simp), if_neg hc]
theorem runeOf_range (n : Int) : ∀ x ∈ runeOf n, 0 ≤ x ∧ x ≤ 255 := by
 unfold runeOf
 intro x hx
 split at hx
 ·simp at hx
 split at hx
 ·simp at hx; omega
 split at hx
 ·simp at hx; omega
 split at hx
 ·simp at hx; omega
 ·simp at hx; omega

def numOf : List Int → Int
 | [a] => a
 | [a, b] => if a < 192 then -1 else if In b then 64 * (a - 192) + (b - 128) else -1
 | [a, b, c] => if a < 224 then -1 else if In b then if In c then 64 * (64 * (a - 224) + (b - 128)) + (c - 128) else -1 else -1
 | [a, b, c, d] => if a < 240 then -1 else if In b then if In c then if In d then 64 * (64 * (64 * (a - 240) + (b - 128)) + (c - 128)) + (d - 128) else -1 else -1 else -1
 | _ => 0
theorem number_any (s : ByteArray) (h1 : 1 ≤ s.size) (h4 : s.size ≤ 4) : Ev (fun k => calamusref03_number.f k s) (numOf (bytesOf s)) := by
 have hb := bytes_range s
 rcases e : bytesOf s with _ | ⟨a, _ | ⟨b, _ | ⟨c, _ | ⟨d, _ | ⟨x, t⟩⟩⟩⟩⟩
 ·have := size_of e; rw [List.length_nil] at this; omega
 ·exact number_one e
 ·have hs : s.size = 2 := size_of e
  have ha := bytes_at (p := []) e 0 (by simp)
  have hb1 := bytes_at (p := [a]) e 1 (by simp)
  rw [e] at hb
  have ra := hb a (by simp)
  have rb := hb b (by simp)
  refine ev_from 8 fun k => ?_
  show calamusref03_number.f (k + 8) s = _
  unfold calamusref03_number.f
  rw [if_neg (by omega), number_first _ _ _ ha ra (by omega) (by omega)]
  simp only [hs, ↓reduceIte, numOf]
  by_cases g : a < 192
  ·rw [if_pos g, if_pos g]
  rw [if_neg g, if_neg g, number_next _ _ _ _ 2 _ rfl hb1 rb (by omega) (by omega) (by omega) (by omega)]
  by_cases g1 : In b
  ·rw [if_pos g1, if_pos g1, number_end _ _ _ _ (by omega)]
  ·rw [if_neg g1, if_neg g1]
 ·have hs : s.size = 3 := size_of e
  have ha := bytes_at (p := []) e 0 (by simp)
  have hb1 := bytes_at (p := [a]) e 1 (by simp)
  have hc1 := bytes_at (p := [a, b]) e 2 (by simp)
  rw [e] at hb
  have ra := hb a (by simp)
  have rb := hb b (by simp)
  have rc := hb c (by simp)
  refine ev_from 8 fun k => ?_
  show calamusref03_number.f (k + 8) s = _
  unfold calamusref03_number.f
  rw [if_neg (by omega), number_first _ _ _ ha ra (by omega) (by omega)]
  simp only [hs, ↓reduceIte, numOf, show ¬ ((3 : Nat) = 2) from by omega]
  by_cases g : a < 224
  ·rw [if_pos g, if_pos g]
  rw [if_neg g, if_neg g, number_next _ _ _ _ 2 _ rfl hb1 rb (by omega) (by omega) (by omega) (by omega)]
  by_cases g1 : In b
  ·rw [if_pos g1, if_pos g1]
   unfold In at g1
   rw [number_next _ _ _ _ 3 _ rfl hc1 rc (by omega) (by omega) (by omega) (by omega)]
   by_cases g2 : In c
   ·rw [if_pos g2, if_pos g2, number_end _ _ _ _ (by omega)]
   ·rw [if_neg g2, if_neg g2]
  ·rw [if_neg g1, if_neg g1]
 ·have hs : s.size = 4 := size_of e
  have ha := bytes_at (p := []) e 0 (by simp)
  have hb1 := bytes_at (p := [a]) e 1 (by simp)
  have hc1 := bytes_at (p := [a, b]) e 2 (by simp)
  have hd1 := bytes_at (p := [a, b, c]) e 3 (by simp)
  rw [e] at hb
  have ra := hb a (by simp)
  have rb := hb b (by simp)
  have rc := hb c (by simp)
  have rd := hb d (by simp)
  refine ev_from 8 fun k => ?_
  show calamusref03_number.f (k + 8) s = _
  unfold calamusref03_number.f
  rw [if_neg (by omega), number_first _ _ _ ha ra (by omega) (by omega)]
  simp only [hs, ↓reduceIte, numOf, show ¬ ((4 : Nat) = 2) from by omega, show ¬ ((4 : Nat) = 3) from by omega]
  by_cases g : a < 240
  ·rw [if_pos g, if_pos g]
  rw [if_neg g, if_neg g, number_next _ _ _ _ 2 _ rfl hb1 rb (by omega) (by omega) (by omega) (by omega)]
  by_cases g1 : In b
  ·rw [if_pos g1, if_pos g1]
   unfold In at g1
   rw [number_next _ _ _ _ 3 _ rfl hc1 rc (by omega) (by omega) (by omega) (by omega)]
   by_cases g2 : In c
   ·rw [if_pos g2, if_pos g2]
    unfold In at g2
    rw [number_next _ _ _ _ 4 _ rfl hd1 rd (by omega) (by omega) (by omega) (by omega)]
    by_cases g3 : In d
    ·rw [if_pos g3, if_pos g3, number_end _ _ _ _ (by omega)]
    ·rw [if_neg g3, if_neg g3]
   ·rw [if_neg g2, if_neg g2]
  ·rw [if_neg g1, if_neg g1]
 ·have := size_of e; simp only [List.length_cons] at this; omega
theorem rune_iff (l : List Int) (h : ∀ x ∈ l, 0 ≤ x ∧ x ≤ 255) (h1 : 1 ≤ l.length) (h4 : l.length ≤ 4) : runeOf (numOf l) = l ↔ Rn l := by
 have eIn : ∀ b, In b ↔ 128 ≤ b ∧ b ≤ 191 := fun b => Iff.rfl
 have none_ : runeOf (-1) = [] := by unfold runeOf; rw [if_pos (by omega)]
 rcases l with _ | ⟨a, _ | ⟨b, _ | ⟨c, _ | ⟨d, _ | ⟨x, t⟩⟩⟩⟩⟩
 ·simp at h1
 ·have ra := h a (by simp)
  show runeOf a = [a] ↔ a < 128
  unfold runeOf
  rw [if_neg (by omega)]
  by_cases g : a < 128
  ·rw [if_pos g]; simp [g]
  ·rw [if_neg g, if_pos (by omega)]; simp [g]
 ·have ra := h a (by simp)
  have rb := h b (by simp)
  show runeOf (if a < 192 then -1 else if In b then 64 * (a - 192) + (b - 128) else -1) = [a, b] ↔ 194 ≤ a ∧ a < 224 ∧ B2 a b
  unfold B2
  by_cases g : a < 192
  ·rw [if_pos g, none_]; simp; omega
  rw [if_neg g]
  by_cases g1 : In b
  ·rw [if_pos g1]
   rw [eIn] at g1
   unfold runeOf
   rw [if_neg (by omega)]
   by_cases g2 : 64 * (a - 192) + (b - 128) < 128
   ·rw [if_pos g2]; simp; omega
   rw [if_neg g2]
   by_cases g3 : 64 * (a - 192) + (b - 128) < 2048
   ·rw [if_pos g3]; simp; omega
   rw [if_neg g3, if_pos (by omega)]; simp; omega
  ·rw [if_neg g1, none_]; rw [eIn] at g1; simp; omega
 ·have ra := h a (by simp)
  have rb := h b (by simp)
  have rc := h c (by simp)
  show runeOf (if a < 224 then -1 else if In b then if In c then 64 * (64 * (a - 224) + (b - 128)) + (c - 128) else -1 else -1) = [a, b, c] ↔ 224 ≤ a ∧ a < 240 ∧ B2 a b ∧ In c
  unfold B2
  by_cases g : a < 224
  ·rw [if_pos g, none_]; simp; omega
  rw [if_neg g]
  by_cases g1 : In b
  ·rw [if_pos g1]
   rw [eIn] at g1
   by_cases g2 : In c
   ·rw [if_pos g2]
    rw [eIn] at g2
    rw [eIn]
    generalize hn : 64 * (64 * (a - 224) + (b - 128)) + (c - 128) = n
    unfold runeOf
    by_cases q0 : n < 0 ∨ n > 1114111 ∨ (n ≥ 55296 ∧ n < 57344)
    ·rw [if_pos q0]; simp; omega
    rw [if_neg q0]
    by_cases q1 : n < 128
    ·rw [if_pos q1]; simp; omega
    rw [if_neg q1]
    by_cases q2 : n < 2048
    ·rw [if_pos q2]; simp; omega
    rw [if_neg q2]
    by_cases q3 : n < 65536
    ·rw [if_pos q3]; simp; omega
    ·rw [if_neg q3]; simp; omega
   ·rw [if_neg g2, none_]; simp [g2]
  ·rw [if_neg g1, none_]; rw [eIn] at g1; simp; omega
 ·have ra := h a (by simp)
  have rb := h b (by simp)
  have rc := h c (by simp)
  have rd := h d (by simp)
  show runeOf (if a < 240 then -1 else if In b then if In c then if In d then 64 * (64 * (64 * (a - 240) + (b - 128)) + (c - 128)) + (d - 128) else -1 else -1 else -1) = [a, b, c, d] ↔ 240 ≤ a ∧ a < 245 ∧ B2 a b ∧ In c ∧ In d
  unfold B2
  by_cases g : a < 240
  ·rw [if_pos g, none_]; simp; omega
  rw [if_neg g]
  by_cases g1 : In b
  ·rw [if_pos g1]
   rw [eIn] at g1
   by_cases g2 : In c
   ·rw [if_pos g2]
    by_cases g4 : In d
    ·rw [if_pos g4]
     rw [eIn] at g2 g4
     rw [eIn, eIn]
     generalize hn : 64 * (64 * (64 * (a - 240) + (b - 128)) + (c - 128)) + (d - 128) = n
     unfold runeOf
     by_cases q0 : n < 0 ∨ n > 1114111 ∨ (n ≥ 55296 ∧ n < 57344)
     ·rw [if_pos q0]; simp; omega
     rw [if_neg q0]
     by_cases q1 : n < 128
     ·rw [if_pos q1]; simp; omega
     rw [if_neg q1]
     by_cases q2 : n < 2048
     ·rw [if_pos q2]; simp; omega
     rw [if_neg q2]
     by_cases q3 : n < 65536
     ·rw [if_pos q3]; simp; omega
     ·rw [if_neg q3]; simp; omega
    ·rw [if_neg g4, none_]; simp [g4]
   ·rw [if_neg g2, none_]; simp [g2]
  ·rw [if_neg g1, none_]; rw [eIn] at g1; simp; omega
 ·simp at h4
theorem is_any (s : ByteArray) : Ev (fun k => calamusref03_Is.f k s) (decide (Rn (bytesOf s))) := by
 unfold calamusref03_Is.f
 have no : ¬ (1 ≤ s.size ∧ s.size ≤ 4) → decide (Rn (bytesOf s)) = false := fun h => by
  rw [decide_eq_false_iff_not]
  intro hr
  have := one_len hr
  rw [bytes_len] at this
  exact h this
 by_cases h1 : (s.size : Int) ≥ 1
 ·refine ev_pos h1 ?_
  by_cases h4 : (s.size : Int) ≤ 4
  ·refine ev_pos h4 ?_
   refine ev_bind (number_any s (by omega) (by omega)) ?_
   refine ev_bind (bytes_any _) ?_
   have e : ((strOfNums (runeOf (numOf (bytesOf s)))).toList == s.toList) = decide (Rn (bytesOf s)) := by
    rw [Bool.eq_iff_iff, beq_iff_eq, decide_eq_true_iff, toList_inj, ← rune_iff _ (bytes_range s) (by rw [bytes_len]; omega) (by rw [bytes_len]; omega)]
    constructor
    ·intro h
     rw [← bytes_nums (runeOf_range (numOf (bytesOf s))), h]
    ·intro h
     apply bytes_inj
     rw [bytes_nums (runeOf_range _), h]
   rw [e]
   exact Ev.now _
  ·refine ev_neg h4 ?_
   rw [no (by omega)]; exact Ev.now _
 ·refine ev_neg h1 ?_
  rw [no (by omega)]; exact Ev.now _

theorem split1_skip (s : ByteArray) (acc : List Int) (at_ n : Nat) (r : List Int) (hs : s.size ≤ 1000000000000) (ha : at_ ≤ s.size) (hn : n ≤ 4)
  (h : at_ + n ≤ s.size → ¬ Rn (((bytesOf s).drop at_).take n)) (k : Ev (fun k => calamusref03_Split.l1 k s acc at_ (n + 1 : Nat)) r) : Ev (fun k => calamusref03_Split.l1 k s acc at_ n) r := by
 have e1 : wrap64 ((at_ : Int) + n) = (at_ + n : Nat) := by rw [wrap_id (by omega) (by omega)]; omega
 have e2 : wrap64 ((n : Int) + 1) = (n + 1 : Nat) := by rw [wrap_id (by omega) (by omega)]; omega
 by_cases hb : at_ + n ≤ s.size
 ·refine Ev.step (f := fun k => (calamusref03_Is.f k (s.extract at_ (at_ + n))).bind fun t150 => (if t150 = true then (if (n : Int) > 4 then (some ([] : List Int)) else (if acc.length < 17592186044416 then (calamusref03_Split.l0 k s (acc ++ [((at_ + n : Nat) : Int)]) ((at_ + n : Nat) : Int)) else (none))) else (calamusref03_Split.l1 k s acc at_ (n + 1 : Nat)))) (fun k => ?_) ?_
  ·rw [calamusref03_Split.l1, if_pos (by omega), e1, e2, if_neg (by omega), if_pos (by omega), if_pos (by omega), if_pos (by omega), Int.toNat_natCast, Int.toNat_natCast]
  ·refine ev_bind (is_any _) ?_
   rw [bytes_extract, Nat.add_sub_cancel_left]
   refine ev_neg (by simpa using h hb) k
 ·refine Ev.step (fun k => ?_) k
  rw [calamusref03_Split.l1, if_pos (by omega), e1, e2, if_pos (by omega)]
theorem split1_hit (s : ByteArray) (acc : List Int) (at_ n : Nat) (r : List Int) (hs : s.size ≤ 1000000000000) (hn : n ≤ 4) (hb : at_ + n ≤ s.size)
  (h : Rn (((bytesOf s).drop at_).take n)) (hl : acc.length ≤ s.size + 1) (k : Ev (fun k => calamusref03_Split.l0 k s (acc ++ [((at_ + n : Nat) : Int)]) (at_ + n : Nat)) r) : Ev (fun k => calamusref03_Split.l1 k s acc at_ n) r := by
 have e1 : wrap64 ((at_ : Int) + n) = (at_ + n : Nat) := by rw [wrap_id (by omega) (by omega)]; omega
 have e2 : wrap64 ((n : Int) + 1) = (n + 1 : Nat) := by rw [wrap_id (by omega) (by omega)]; omega
 refine Ev.step (f := fun k => (calamusref03_Is.f k (s.extract at_ (at_ + n))).bind fun t150 => (if t150 = true then (if (n : Int) > 4 then (some ([] : List Int)) else (if acc.length < 17592186044416 then (calamusref03_Split.l0 k s (acc ++ [((at_ + n : Nat) : Int)]) ((at_ + n : Nat) : Int)) else (none))) else (calamusref03_Split.l1 k s acc at_ (n + 1 : Nat)))) (fun k => ?_) ?_
 ·rw [calamusref03_Split.l1, if_pos (by omega), e1, e2, if_neg (by omega), if_pos (by omega), if_pos (by omega), if_pos (by omega), Int.toNat_natCast, Int.toNat_natCast]
 ·refine ev_bind (is_any _) ?_
  rw [bytes_extract, Nat.add_sub_cancel_left]
  exact ev_pos (by simpa using h) (ev_neg (by omega) (ev_pos (by omega) k))
theorem split1_end (s : ByteArray) (acc : List Int) (at_ : Nat) : Ev (fun k => calamusref03_Split.l1 k s acc at_ (5 : Nat)) [] := by
 refine ev_from 1 fun k => ?_
 show calamusref03_Split.l1 (k + 1) s acc at_ ((5 : Nat) : Int) = _
 rw [calamusref03_Split.l1, if_neg (by omega), if_pos (by omega)]
theorem split_l (s : ByteArray) (hs : s.size ≤ 1000000000000) (m : Nat) : ∀ (at_ : Nat) (acc : List Int), s.size - at_ ≤ m → at_ ≤ s.size → acc.length ≤ at_ + 1 →
  ∃ r, Ev (fun k => calamusref03_Split.l0 k s acc at_) r ∧ (∀ rs, All rs → (bytesOf s).drop at_ = rs.flatten → r = acc ++ (cum at_ rs).tail) ∧ (¬ Val ((bytesOf s).drop at_) → r = []) := by
 induction m with
 | zero =>
  intro at_ acc hm ha hl
  have e : (bytesOf s).drop at_ = [] := by rw [List.drop_eq_nil_iff, bytes_len]; omega
  refine ⟨acc, ev_from 1 fun k => ?_, fun rs hrs he => ?_, fun h => ?_⟩
  ·show calamusref03_Split.l0 (k + 1) s acc at_ = _
   rw [calamusref03_Split.l0, if_neg (by omega)]
  ·rw [e] at he
   obtain rfl := runes_inj All.nil hrs he
   simp [cum]
  ·rw [e] at h; exact absurd val_nil h
 | succ m ih =>
  intro at_ acc hm ha hl
  have hld : ((bytesOf s).drop at_).length = s.size - at_ := by rw [List.length_drop, bytes_len]
  rcases val_or ((bytesOf s).drop at_) with e | ⟨r, t, hr, e⟩ | ⟨hne, hv, hno⟩
  ·have : s.size ≤ at_ := by have := congrArg List.length e; rw [hld, List.length_nil] at this; omega
   refine ⟨acc, ev_from 1 fun k => ?_, fun rs hrs he => ?_, fun h => ?_⟩
   ·show calamusref03_Split.l0 (k + 1) s acc at_ = _
    rw [calamusref03_Split.l0, if_neg (by omega)]
   ·rw [e] at he
    obtain rfl := runes_inj All.nil hrs he
    simp [cum]
   ·rw [e] at h; exact absurd val_nil h
  ·have h14 := one_len hr
   have hl2 : r.length ≤ s.size - at_ := by rw [← hld, e, List.length_append]; omega
   have hd : (bytesOf s).drop (at_ + r.length) = t := by rw [← List.drop_drop, e, List.drop_left]
   obtain ⟨q, hq, hy, hn⟩ := ih (at_ + r.length) (acc ++ [((at_ + r.length : Nat) : Int)]) (by omega) (by omega) (by rw [List.length_append, List.length_singleton]; omega)
   refine ⟨q, ?_, fun rs hrs he => ?_, fun h => ?_⟩
   ·refine Ev.step (f := fun k => calamusref03_Split.l1 k s acc at_ 1) (fun k => ?_) ?_
    ·rw [calamusref03_Split.l0, if_pos (by omega)]
    ·have hit : Ev (fun k => calamusref03_Split.l1 k s acc at_ r.length) q :=
      split1_hit s acc at_ r.length q hs (by omega) (by omega) (by rw [e, List.take_left]; exact hr) (by omega) hq
     have skip : ∀ n, n < r.length → at_ + n ≤ s.size → ¬ Rn (((bytesOf s).drop at_).take n) := by
      intro n hn _ hb
      have := one_inj hb hr (t := ((bytesOf s).drop at_).drop n) (t' := t) (by rw [List.take_append_drop, e])
      have h3 := congrArg List.length this.1
      rw [List.length_take, hld] at h3
      omega
     have down : ∀ j, ∀ n, n + j = r.length → 1 ≤ n → Ev (fun k => calamusref03_Split.l1 k s acc at_ n) q := by
      intro j
      induction j with
      | zero =>
       intro n hn _
       obtain rfl : n = r.length := by omega
       exact hit
      | succ j ihj => intro n hn h1; exact split1_skip s acc at_ n q hs ha (by omega) (skip n (by omega)) (ihj (n + 1) (by omega) (by omega))
     exact down (r.length - 1) 1 (by omega) (by omega)
   ·rw [e] at he
    rcases rs with _ | ⟨r', rs⟩
    ·have := one_ne hr; simp at he; exact absurd he.1 this
    ·obtain ⟨rfl, he'⟩ := one_inj hr hrs.head he
     rw [hy rs hrs.tail (by rw [hd, he'])]
     obtain ⟨tl, h1, h2⟩ := cum_cons ((at_ + r.length : Nat) : Int) rs
     rw [h1]
     simp only [cum, List.tail_cons]
     rw [show (at_ : Int) + r.length = (at_ + r.length : Nat) from by omega, h1]
     simp
   ·rw [e, val_one hr] at h
    exact hn (by rwa [hd])
  ·refine ⟨[], ?_, fun rs hrs he => absurd ⟨rs, hrs, he⟩ hv, fun _ => rfl⟩
   have hlt : at_ < s.size := by
    rcases Nat.lt_or_ge at_ s.size with h | h
    ·exact h
    ·exact absurd (List.eq_nil_of_length_eq_zero (by rw [hld]; omega)) hne
   refine Ev.step (f := fun k => calamusref03_Split.l1 k s acc at_ 1) (fun k => ?_) ?_
   ·rw [calamusref03_Split.l0, if_pos (by omega)]
   ·have no : ∀ n, at_ + n ≤ s.size → ¬ Rn (((bytesOf s).drop at_).take n) := fun n _ hb => hno _ (((bytesOf s).drop at_).drop n) hb (by rw [List.take_append_drop])
    exact split1_skip s acc at_ 1 _ hs ha (by omega) (no 1) (split1_skip s acc at_ 2 _ hs ha (by omega) (no 2) (split1_skip s acc at_ 3 _ hs ha (by omega) (no 3) (split1_skip s acc at_ 4 _ hs ha (by omega) (no 4) (split1_end s acc at_))))
theorem split_yes {s : ByteArray} (hs : s.size ≤ 1000000000000) {rs : List (List Int)} (h : All rs) (e : bytesOf s = rs.flatten) : Ev (fun k => calamusref03_Split.f k s) (cum 0 rs) := by
 obtain ⟨r, hr, hy, _⟩ := split_l s hs s.size 0 [0] (by omega) (by omega) (by simp)
 have := hy rs h (by rw [List.drop_zero, e])
 obtain ⟨tl, h1, _⟩ := cum_cons ((0 : Nat) : Int) rs
 rw [h1] at this
 rw [show (0 : Int) = ((0 : Nat) : Int) from rfl, h1, show ((0 : Nat) : Int) :: tl = r from by rw [this]; simp]
 exact hr
theorem split_no {s : ByteArray} (hs : s.size ≤ 1000000000000) (h : ¬ Val (bytesOf s)) : Ev (fun k => calamusref03_Split.f k s) [] := by
 obtain ⟨r, hr, _, hn⟩ := split_l s hs s.size 0 [0] (by omega) (by omega) (by simp)
 rw [← hn (by rwa [List.drop_zero])]
 exact hr
theorem flat_len (rs : List (List Int)) (h : All rs) : rs.length ≤ rs.flatten.length := by
 induction rs with
 | nil => simp
 | cons r rs ih =>
  have := one_len h.head
  have := ih h.tail
  simp only [List.flatten_cons, List.length_append, List.length_cons]; omega
theorem flat_lt {xs ys : List (List Int)} (h : All ys) (hne : ys ≠ []) : xs.flatten.length < (xs ++ ys).flatten.length := by
 rcases ys with _ | ⟨r, ys⟩
 ·exact absurd rfl hne
 ·have := one_len h.head
  simp only [List.flatten_append, List.flatten_cons, List.length_append]; omega
/-- A place: where it parts the runes. -/
def Is (rs : List (List Int)) (at_ : Int) (xs ys : List (List Int)) : Prop := rs = xs ++ ys ∧ at_ = xs.flatten.length
theorem is_inj {rs xs ys xs' ys' : List (List Int)} {at_ : Int} (h : All rs) (a : Is rs at_ xs ys) (b : Is rs at_ xs' ys') : xs = xs' ∧ ys = ys' := by
 obtain ⟨rfl, a2⟩ := a
 obtain ⟨e, b2⟩ := b
 have hx := runes_inj (rs := xs) (rs' := xs') h.left (by rw [e] at h; exact h.left) (by
  have h1 : (xs ++ ys).flatten.take xs.flatten.length = xs.flatten := by rw [List.flatten_append, List.take_left]
  have h2 : (xs' ++ ys').flatten.take xs'.flatten.length = xs'.flatten := by rw [List.flatten_append, List.take_left]
  rw [← h1, ← h2, e]
  congr 1; omega)
 subst hx
 exact ⟨rfl, List.append_cancel_left e⟩
theorem cum_at {rs : List (List Int)} (j : Nat) (hj : j < rs.length + 1) : (cum 0 rs).getD j 0 = ((rs.take j).flatten.length : Int) := by
 have := cum_get 0 (rs.take j) (rs.drop j)
 rw [List.take_append_drop, List.length_take, Nat.min_eq_left (by omega)] at this
 omega
theorem inner_any (a : Int) (h : 0 ≤ a ∧ a ≤ 255) : utf_inner.f a = some (decide (In a)) := by
 have all : ∀ n : Fin 256, ((Go.bits .and .u8 ((n.val : Nat) : Int) 192) == 128) = decide (In ((n.val : Nat) : Int)) := by decide +kernel
 have := all ⟨a.toNat, by omega⟩
 simp only [Int.toNat_of_nonneg h.1] at this
 unfold utf_inner.f
 rw [this]
theorem place_bad {s : ByteArray} {at_ : Int} (h : ¬ Val (bytesOf s)) : Ev (fun k => utf_Place.f k s at_) false := by
 unfold utf_Place.f
 by_cases h0 : at_ ≥ 0
 ·refine ev_pos h0 ?_
  by_cases h1 : at_ ≤ (s.size : Int)
  ·refine ev_pos h1 ?_
   by_cases h2 : at_ = (s.size : Int)
   ·exact ev_pos h2 (ev_bind (valid_no h) (Ev.now _))
   ·refine ev_neg h2 (ev_pos (by omega) (ev_pos (by omega) ?_))
    rw [inner_any _ (bt_range s at_)]
    simp only [Option.bind_some]
    by_cases hi : In (bt s at_)
    ·exact ev_pos (by simpa using hi) (Ev.now _)
    ·exact ev_neg (by simpa using hi) (ev_bind (valid_no h) (Ev.now _))
  ·exact ev_neg h1 (Ev.now _)
 ·exact ev_neg h0 (Ev.now _)
theorem place_in {s : ByteArray} {rs : List (List Int)} (h : All rs) (e : bytesOf s = rs.flatten) (i : Nat) (hi : i < s.size) :
  ∃ xs r ys j, rs = xs ++ r :: ys ∧ i = xs.flatten.length + j ∧ j < r.length ∧ (In (bt s (i : Int)) ↔ 0 < j) := by
 obtain ⟨xs, r, ys, j, a, b, c⟩ := locate rs i (by rw [← e, bytes_len]; exact hi)
 refine ⟨xs, r, ys, j, a, b, c, ?_⟩
 rw [bytes_get, e, Int.toNat_natCast]
 exact inner_at h a b c
theorem place_yes {s : ByteArray} {rs xs ys : List (List Int)} {at_ : Int} (h : All rs) (e : bytesOf s = rs.flatten) (a : Is rs at_ xs ys) : Ev (fun k => utf_Place.f k s at_) true := by
 have hv : Val (bytesOf s) := ⟨rs, h, e⟩
 have hsz : s.size = rs.flatten.length := by rw [← e, bytes_len]
 have hle : xs.flatten.length ≤ s.size := by rw [hsz, a.1, List.flatten_append, List.length_append]; omega
 unfold utf_Place.f
 refine ev_pos (by have := a.2; omega) (ev_pos (by have := a.2; omega) ?_)
 by_cases h2 : at_ = (s.size : Int)
 ·exact ev_pos h2 (ev_bind (valid_yes hv) (Ev.now _))
 ·refine ev_neg h2 (ev_pos (by have := a.2; omega) (ev_pos (by have := a.2; omega) ?_))
  obtain ⟨xs', r, ys', j, q1, q2, q3, q4⟩ := place_in h e xs.flatten.length (by have := a.2; omega)
  have hj : j = 0 := by
   rcases Nat.eq_zero_or_pos j with hj | hj
   ·exact hj
   ·exfalso
    rcases Nat.lt_trichotomy xs.length xs'.length with g | g | g
    ·have : xs <+: xs' := List.prefix_of_prefix_length_le (l₃ := rs) ⟨ys, a.1.symm⟩ ⟨r :: ys', q1.symm⟩ (by omega)
     obtain ⟨z, rfl⟩ := this
     rw [List.flatten_append, List.length_append] at q2
     omega
    ·have := List.append_inj (a.1.symm.trans q1) g
     rw [this.1] at q2; omega
    ·have : xs' ++ [r] <+: xs := List.prefix_of_prefix_length_le (l₃ := rs) ⟨ys', by rw [q1]; simp⟩ ⟨ys, a.1.symm⟩ (by simp; omega)
     obtain ⟨z, rfl⟩ := this
     simp only [List.flatten_append, List.flatten_cons, List.flatten_nil, List.append_nil, List.length_append] at q2
     omega
  have hi : ¬ In (bt s at_) := by rw [a.2, q4]; omega
  rw [inner_any _ (bt_range s at_)]
  simp only [Option.bind_some]
  exact ev_neg (by simpa using hi) (ev_bind (valid_yes hv) (Ev.now _))
theorem place_not {s : ByteArray} {rs : List (List Int)} {at_ : Int} (h : All rs) (e : bytesOf s = rs.flatten) (a : ∀ xs ys, ¬ Is rs at_ xs ys) : Ev (fun k => utf_Place.f k s at_) false := by
 have hsz : s.size = rs.flatten.length := by rw [← e, bytes_len]
 unfold utf_Place.f
 by_cases h0 : at_ ≥ 0
 ·refine ev_pos h0 ?_
  by_cases h1 : at_ ≤ (s.size : Int)
  ·refine ev_pos h1 ?_
   by_cases h2 : at_ = (s.size : Int)
   ·exact absurd ⟨(List.append_nil rs).symm, by rw [h2, hsz]⟩ (a rs [])
   ·refine ev_neg h2 (ev_pos (by omega) (ev_pos (by omega) ?_))
    obtain ⟨xs, r, ys, j, q1, q2, q3, q4⟩ := place_in h e at_.toNat (by omega)
    rw [Int.toNat_of_nonneg h0] at q4
    have hj : 0 < j := by
     rcases Nat.eq_zero_or_pos j with hj | hj
     ·exact absurd ⟨q1, by omega⟩ (a xs (r :: ys))
     ·exact hj
    rw [inner_any _ (bt_range s at_)]
    simp only [Option.bind_some]
    exact ev_pos (by simpa using q4.2 hj) (Ev.now _)
  ·exact ev_neg h1 (Ev.now _)
 ·exact ev_neg h0 (Ev.now _)
/-- The three cases of a place. -/
theorem next_no {s : ByteArray} {at_ : Int} (h : Ev (fun k => utf_Place.f k s at_) false) : Ev (fun k => utf_Next.f k s at_) (-1) := by
 unfold utf_Next.f
 refine ev_bind h ?_
 exact ev_neg (by simp) (Ev.now _)
theorem next_end {s : ByteArray} {rs : List (List Int)} {at_ : Int} (h : All rs) (e : bytesOf s = rs.flatten) (a : Is rs at_ rs []) : Ev (fun k => utf_Next.f k s at_) (-1) := by
 unfold utf_Next.f
 refine ev_bind (place_yes h e a) ?_
 exact ev_pos rfl (ev_pos (by rw [a.2, ← e, bytes_len]) (Ev.now _))
theorem next_yes {s : ByteArray} {rs xs ys : List (List Int)} {r : List Int} {at_ : Int} (hs : s.size ≤ 140737488351232) (h : All rs) (e : bytesOf s = rs.flatten) (a : Is rs at_ xs (r :: ys)) : Ev (fun k => utf_Next.f k s at_) (at_ + r.length) := by
 have hr : Rn r := h r (by rw [a.1]; simp)
 have h14 := one_len hr
 have hsz : s.size = rs.flatten.length := by rw [← e, bytes_len]
 have hl : xs.flatten.length + r.length ≤ s.size := by rw [hsz, a.1, List.flatten_append, List.flatten_cons, List.length_append, List.length_append]; omega
 have h2 := a.2
 unfold utf_Next.f
 refine ev_bind (place_yes h e a) ?_
 refine ev_pos rfl (ev_neg (by omega) (ev_pos (by omega) (ev_pos (by omega) ?_)))
 refine ev_bind (size_one (r := r) (t := ys.flatten) hr ?_) ?_
 ·rw [bytes_drop, e, a.1, List.flatten_append, List.flatten_cons, h2, Int.toNat_natCast, List.drop_left]
 ·rw [wrap_id (by omega) (by omega)]; exact Ev.now _
theorem flat_snoc (xs : List (List Int)) (r : List Int) : (xs ++ [r]).flatten.length = xs.flatten.length + r.length := by simp
theorem at_in {s : ByteArray} {rs xs ys : List (List Int)} {r : List Int} (h : All rs) (e : bytesOf s = rs.flatten) (a : rs = xs ++ r :: ys) (j : Nat) (hj : j < r.length) :
  xs.flatten.length + j < s.size ∧ utf_inner.f (bt s ((xs.flatten.length + j : Nat) : Int)) = some (decide (0 < j)) := by
 have hsz : s.size = rs.flatten.length := by rw [← e, bytes_len]
 have hl : xs.flatten.length + r.length ≤ s.size := by rw [hsz, a, List.flatten_append, List.flatten_cons, List.length_append, List.length_append]; omega
 refine ⟨by omega, ?_⟩
 rw [inner_any _ (bt_range s _), bytes_get, e, Int.toNat_natCast]
 exact congrArg some (decide_eq_decide.2 (inner_at h a rfl hj))
theorem count_in {s : ByteArray} {rs xs ys : List (List Int)} {r : List Int} (hs : s.size ≤ 140737488351232) (h : All rs) (e : bytesOf s = rs.flatten) (a : rs = xs ++ r :: ys) (c q : Int)
  (k : Ev (fun k => utf_Count.l0 k s c s.size ((xs.flatten.length + r.length : Nat) : Int)) q) (d : Nat) : ∀ j, j + d = r.length → 1 ≤ j → Ev (fun k => utf_Count.l0 k s c s.size ((xs.flatten.length + j : Nat) : Int)) q := by
 induction d with
 | zero => intro j hj _; rw [show j = r.length from by omega]; exact k
 | succ d ih =>
  intro j hj h1
  obtain ⟨g1, g2⟩ := at_in h e a j (by omega)
  refine Ev.step (fun k => ?_) (ih (j + 1) (by omega) (by omega))
  rw [utf_Count.l0, if_pos (by omega), if_pos (by omega), if_pos (by omega), g2]
  simp only [Option.bind_some]
  rw [if_pos (by simp; omega), wrap_id (by omega) (by omega)]; congr 1
theorem count_l {s : ByteArray} {rs : List (List Int)} (hs : s.size ≤ 140737488351232) (h : All rs) (e : bytesOf s = rs.flatten) (ys : List (List Int)) : ∀ xs (c : Int), rs = xs ++ ys → 0 ≤ c → c ≤ xs.flatten.length →
  Ev (fun k => utf_Count.l0 k s c s.size (xs.flatten.length : Int)) (c + ys.length) := by
 have hsz : s.size = rs.flatten.length := by rw [← e, bytes_len]
 induction ys with
 | nil =>
  intro xs c a h0 hc
  refine ev_from 1 fun k => ?_
  show utf_Count.l0 (k + 1) s c s.size _ = _
  rw [utf_Count.l0, if_neg (by rw [hsz, a]; simp)]; simp
 | cons r ys ih =>
  intro xs c a h0 hc
  have hr : Rn r := h r (by rw [a]; simp)
  have h14 := one_len hr
  obtain ⟨g1, g2⟩ := at_in h e a 0 (by omega)
  have q := ih (xs ++ [r]) (c + 1) (by rw [a]; simp) (by omega) (by rw [flat_snoc]; omega)
  rw [flat_snoc] at q
  have q1 := count_in hs h e a (c + 1) _ q (r.length - 1) 1 (by omega) (by omega)
  rw [List.length_cons]
  refine Ev.step (fun k => ?_) (show Ev (fun k => utf_Count.l0 k s (c + 1) s.size ((xs.flatten.length + 1 : Nat) : Int)) (c + ((ys.length + 1 : Nat) : Int)) from by rw [show c + ((ys.length + 1 : Nat) : Int) = c + 1 + ys.length from by omega]; exact q1)
  rw [Nat.add_zero] at g1 g2
  rw [utf_Count.l0, if_pos (by omega), if_pos (by omega), if_pos (by omega), g2]
  simp only [Option.bind_some]
  rw [if_neg (by simp), wrap_id (by omega) (by omega), wrap_id (by omega) (by omega)]; congr 1
theorem count_yes {s : ByteArray} {rs : List (List Int)} (hs : s.size ≤ 140737488351232) (h : All rs) (e : bytesOf s = rs.flatten) : Ev (fun k => utf_Count.f k s) (rs.length : Int) := by
 unfold utf_Count.f
 refine ev_bind (valid_yes ⟨rs, h, e⟩) (ev_pos rfl ?_)
 have := count_l hs h e rs [] 0 rfl (by omega) (by simp)
 rwa [show (0 : Int) + (rs.length : Int) = rs.length from by omega] at this
theorem count_no {s : ByteArray} (h : ¬ Val (bytesOf s)) : Ev (fun k => utf_Count.f k s) 0 := by
 unfold utf_Count.f
 exact ev_bind (valid_no h) (ev_neg (by simp) (Ev.now _))
end Go.Proofs.Ytealbonfaebikaa.KeyTextsUtf
