/- Texts as lists of runes: plain law, no program in sight.
  Template: Ytkiokimpblimcaa is the seat's name. -/
import Derived.Test.YtkiokimpblimcaaWWords
namespace Go.Proofs.Ytkiokimpblimcaa.Utf
open Go.RowKit Go.Proofs.YtkiokimpblimcaaW.PrintWords

def B2 (a b : Int) : Prop := 128 ≤ b ∧ b ≤ 191 ∧ (a = 224 → 160 ≤ b) ∧ (a = 237 → b ≤ 159) ∧ (a = 240 → 144 ≤ b) ∧ (a = 244 → b ≤ 143)
instance (a b : Int) : Decidable (B2 a b) := by unfold B2; infer_instance
def In (b : Int) : Prop := 128 ≤ b ∧ b ≤ 191
instance (b : Int) : Decidable (In b) := by unfold In; infer_instance

def Rn : List Int → Prop
 | [a] => a < 128
 | [a, b] => 194 ≤ a ∧ a < 224 ∧ B2 a b
 | [a, b, c] => 224 ≤ a ∧ a < 240 ∧ B2 a b ∧ In c
 | [a, b, c, d] => 240 ≤ a ∧ a < 245 ∧ B2 a b ∧ In c ∧ In d
 | _ => False
def Half : List Int → Prop
 | [a] => 194 ≤ a ∧ a < 245
 | [a, b] => 224 ≤ a ∧ a < 245 ∧ B2 a b
 | [a, b, c] => 240 ≤ a ∧ a < 245 ∧ B2 a b ∧ In c
 | _ => False

instance (l : List Int) : Decidable (Rn l) := by unfold Rn; split <;> infer_instance
instance (l : List Int) : Decidable (Half l) := by unfold Half; split <;> infer_instance

def beg : List Int → Int × Int
 | [] => (0, 0)
 | a :: t =>
  if a < 128 then (1, 1) else if a < 194 then (0, 0) else if a < 224 then
   match t with
   | [] => (1, 2)
   | b :: _ => if B2 a b then (2, 2) else (0, 0)
  else if a < 240 then
   match t with
   | [] => (1, 3)
   | [b] => if B2 a b then (2, 3) else (0, 0)
   | b :: c :: _ => if B2 a b ∧ In c then (3, 3) else (0, 0)
  else if a < 245 then
   match t with
   | [] => (1, 4)
   | [b] => if B2 a b then (2, 4) else (0, 0)
   | [b, c] => if B2 a b ∧ In c then (3, 4) else (0, 0)
   | b :: c :: d :: _ => if B2 a b ∧ In c ∧ In d then (4, 4) else (0, 0)
  else (0, 0)

theorem one_len {r : List Int} (h : Rn r) : 1 ≤ r.length ∧ r.length ≤ 4 := by
 rcases r with _ | ⟨a, _ | ⟨b, _ | ⟨c, _ | ⟨d, _ | ⟨e, t⟩⟩⟩⟩⟩ <;> simp_all [Rn]
theorem one_ne {r : List Int} (h : Rn r) : r ≠ [] := by rintro rfl; simp [Rn] at h

theorem beg_one {r : List Int} (h : Rn r) (t : List Int) : beg (r ++ t) = ((r.length : Int), (r.length : Int)) := by
 rcases r with _ | ⟨a, _ | ⟨b, _ | ⟨c, _ | ⟨d, _ | ⟨e, t'⟩⟩⟩⟩⟩
 ·simp [Rn] at h
 ·simp only [Rn] at h; simp [beg, h]
 ·obtain ⟨h1, h2, h3⟩ := h
  simp only [List.cons_append, List.nil_append, beg]
  rw [if_neg (by omega), if_neg (by omega), if_pos h2, if_pos h3]; rfl
 ·obtain ⟨h1, h2, h3⟩ := h
  simp only [List.cons_append, List.nil_append, beg]
  rw [if_neg (by omega), if_neg (by omega), if_neg (by omega), if_pos h2, if_pos h3]; rfl
 ·obtain ⟨h1, h2, h3⟩ := h
  simp only [List.cons_append, List.nil_append, beg]
  rw [if_neg (by omega), if_neg (by omega), if_neg (by omega), if_neg (by omega), if_pos h2, if_pos h3]; rfl
 ·simp [Rn] at h

theorem beg_half {l : List Int} (h : Half l) : (beg l).1 = l.length ∧ (l.length : Int) < (beg l).2 := by
 rcases l with _ | ⟨a, _ | ⟨b, _ | ⟨c, _ | ⟨d, t⟩⟩⟩⟩
 ·simp [Half] at h
 ·obtain ⟨h1, h2⟩ := h
  simp only [beg]
  rw [if_neg (by omega), if_neg (by omega)]
  by_cases h3 : a < 224
  ·rw [if_pos h3]; simp
  ·by_cases h4 : a < 240
   ·rw [if_neg h3, if_pos h4]; simp
   ·rw [if_neg h3, if_neg h4, if_pos h2]; simp
 ·obtain ⟨h1, h2, h3⟩ := h
  simp only [beg]
  rw [if_neg (by omega), if_neg (by omega), if_neg (by omega)]
  by_cases h4 : a < 240
  ·rw [if_pos h4, if_pos h3]; simp
  ·rw [if_neg h4, if_pos h2, if_pos h3]; simp
 ·obtain ⟨h1, h2, h3⟩ := h
  simp only [beg]
  rw [if_neg (by omega), if_neg (by omega), if_neg (by omega), if_neg (by omega), if_pos h2, if_pos h3]; simp
 ·simp [Half] at h

/-- What begins a list: a whole rune, a part of one, or none. -/
theorem beg_cases (l : List Int) : l = [] ∨ (∃ r t, Rn r ∧ l = r ++ t) ∨ Half l ∨ (l ≠ [] ∧ beg l = (0, 0)) := by
 rcases l with _ | ⟨a, t⟩
 ·exact .inl rfl
 right
 by_cases h1 : a < 128
 ·exact .inl ⟨[a], t, h1, rfl⟩
 by_cases h2 : a < 194
 ·right; right; exact ⟨by simp, by simp only [beg]; rw [if_neg h1, if_pos h2]⟩
 by_cases h3 : a < 224
 ·rcases t with _ | ⟨b, t⟩
  ·right; left; exact ⟨by omega, by omega⟩
  by_cases hb : B2 a b
  ·left; exact ⟨[a, b], t, ⟨by omega, h3, hb⟩, rfl⟩
  ·right; right; exact ⟨by simp, by simp only [beg]; rw [if_neg h1, if_neg h2, if_pos h3, if_neg hb]⟩
 by_cases h4 : a < 240
 ·rcases t with _ | ⟨b, _ | ⟨c, t⟩⟩
  ·right; left; exact ⟨by omega, by omega⟩
  ·by_cases hb : B2 a b
   ·right; left; exact ⟨by omega, by omega, hb⟩
   ·right; right; exact ⟨by simp, by simp only [beg]; rw [if_neg h1, if_neg h2, if_neg h3, if_pos h4, if_neg hb]⟩
  ·by_cases hb : B2 a b ∧ In c
   ·left; exact ⟨[a, b, c], t, ⟨by omega, h4, hb⟩, rfl⟩
   ·right; right; exact ⟨by simp, by simp only [beg]; rw [if_neg h1, if_neg h2, if_neg h3, if_pos h4, if_neg hb]⟩
 by_cases h5 : a < 245
 ·rcases t with _ | ⟨b, _ | ⟨c, _ | ⟨d, t⟩⟩⟩
  ·right; left; exact ⟨by omega, by omega⟩
  ·by_cases hb : B2 a b
   ·right; left; exact ⟨by omega, by omega, hb⟩
   ·right; right; exact ⟨by simp, by simp only [beg]; rw [if_neg h1, if_neg h2, if_neg h3, if_neg h4, if_pos h5, if_neg hb]⟩
  ·by_cases hb : B2 a b ∧ In c
   ·right; left; exact ⟨by omega, by omega, hb⟩
   ·right; right; exact ⟨by simp, by simp only [beg]; rw [if_neg h1, if_neg h2, if_neg h3, if_neg h4, if_pos h5, if_neg hb]⟩
  ·by_cases hb : B2 a b ∧ In c ∧ In d
   ·left; exact ⟨[a, b, c, d], t, ⟨by omega, h5, hb⟩, rfl⟩
   ·right; right; exact ⟨by simp, by simp only [beg]; rw [if_neg h1, if_neg h2, if_neg h3, if_neg h4, if_pos h5, if_neg hb]⟩
 ·right; right; exact ⟨by simp, by simp only [beg]; rw [if_neg h1, if_neg h2, if_neg h3, if_neg h4, if_neg h5]⟩

theorem one_inj {r r' t t' : List Int} (h : Rn r) (h' : Rn r') (e : r ++ t = r' ++ t') : r = r' ∧ t = t' := by
 have a := beg_one h t
 rw [e, beg_one h' t'] at a
 have : r.length = r'.length := by
  have := congrArg Prod.fst a; simp at this; omega
 exact List.append_inj e this
theorem half_not_one {l : List Int} (h : Half l) {r t : List Int} (hr : Rn r) : l ≠ r ++ t := by
 rintro rfl
 have a := beg_half h
 rw [beg_one hr t] at a
 omega
theorem one_head {a : Int} {t : List Int} (h : Rn (a :: t)) : ¬ In a := by
 unfold In
 rcases t with _ | ⟨b, _ | ⟨c, _ | ⟨d, _ | ⟨e, t⟩⟩⟩⟩ <;> simp only [Rn] at h <;> omega
theorem one_tail {a : Int} {t : List Int} (h : Rn (a :: t)) : ∀ x ∈ t, In x := by
 rcases t with _ | ⟨b, _ | ⟨c, _ | ⟨d, _ | ⟨e, t⟩⟩⟩⟩ <;> simp only [Rn, B2] at h <;> simp [In] at * <;> omega
theorem half_tail {a : Int} {t : List Int} (h : Half (a :: t)) : ∀ x ∈ t, In x := by
 rcases t with _ | ⟨b, _ | ⟨c, _ | ⟨d, t⟩⟩⟩ <;> simp only [Half, B2] at h <;> simp [In] at * <;> omega

def All (rs : List (List Int)) : Prop := ∀ r ∈ rs, Rn r
theorem All.nil : All [] := fun r h => by simp at h
theorem All.cons {r : List Int} {rs : List (List Int)} (h : Rn r) (hs : All rs) : All (r :: rs) := fun x hx => by
 rcases List.mem_cons.1 hx with rfl | hx
 ·exact h
 ·exact hs x hx
theorem All.head {r : List Int} {rs : List (List Int)} (h : All (r :: rs)) : Rn r := h r (by simp)
theorem All.tail {r : List Int} {rs : List (List Int)} (h : All (r :: rs)) : All rs := fun x hx => h x (by simp [hx])
theorem All.left {xs ys : List (List Int)} (h : All (xs ++ ys)) : All xs := fun x hx => h x (by simp [hx])
theorem All.right {xs ys : List (List Int)} (h : All (xs ++ ys)) : All ys := fun x hx => h x (by simp [hx])
theorem All.append {xs ys : List (List Int)} (h : All xs) (k : All ys) : All (xs ++ ys) := fun x hx => by
 rcases List.mem_append.1 hx with hx | hx
 ·exact h x hx
 ·exact k x hx

/-- A valid text: runes, one behind the other. -/
def Val (l : List Int) : Prop := ∃ rs, All rs ∧ l = rs.flatten
theorem val_nil : Val [] := ⟨[], All.nil, rfl⟩
theorem val_one {r t : List Int} (h : Rn r) : Val (r ++ t) ↔ Val t := by
 constructor
 ·rintro ⟨rs, hs, e⟩
  rcases rs with _ | ⟨r', rs⟩
  ·have := one_ne h; simp at e; exact absurd e.1 this
  ·obtain ⟨_, rfl⟩ := one_inj h hs.head e
   exact ⟨rs, hs.tail, rfl⟩
 ·rintro ⟨rs, hs, rfl⟩
  exact ⟨r :: rs, .cons h hs, rfl⟩
theorem val_half {l : List Int} (h : Half l) : ¬ Val l := by
 rintro ⟨rs, hs, e⟩
 rcases rs with _ | ⟨r, rs⟩
 ·simp at e; subst e; simp [Half] at h
 ·exact half_not_one h hs.head e
theorem val_bad {l : List Int} (h : l ≠ []) (hb : beg l = (0, 0)) : ¬ Val l := by
 rintro ⟨rs, hs, e⟩
 rcases rs with _ | ⟨r, rs⟩
 ·exact h e
 ·have := beg_one hs.head rs.flatten
  rw [List.flatten_cons] at e
  rw [← e, hb] at this
  have h1 := one_len hs.head
  have h2 := congrArg Prod.fst this
  simp only at h2
  omega
theorem runes_inj {rs rs' : List (List Int)} (h : All rs) (h' : All rs') (e : rs.flatten = rs'.flatten) : rs = rs' := by
 induction rs generalizing rs' with
 | nil =>
  rcases rs' with _ | ⟨r, rs'⟩
  ·rfl
  ·have := one_ne h'.head; simp at e; exact absurd e.1 this
 | cons r rs ih =>
  rcases rs' with _ | ⟨r', rs'⟩
  ·have := one_ne h.head; simp at e; exact absurd e.1 this
  ·obtain ⟨rfl, e'⟩ := one_inj h.head h'.head e
   rw [ih h.tail h'.tail e']

/-- Each index of a text lies in one rune. -/
theorem locate (rs : List (List Int)) : ∀ i, i < rs.flatten.length → ∃ xs r ys j, rs = xs ++ r :: ys ∧ i = xs.flatten.length + j ∧ j < r.length := by
 induction rs with
 | nil => intro i h; simp at h
 | cons r rs ih =>
  intro i h
  by_cases hi : i < r.length
  ·exact ⟨[], r, rs, i, rfl, by simp, hi⟩
  ·simp only [List.flatten_cons, List.length_append] at h
   obtain ⟨xs, q, ys, j, rfl, e, hj⟩ := ih (i - r.length) (by omega)
   exact ⟨r :: xs, q, ys, j, rfl, by simp only [List.flatten_cons, List.length_append]; omega, hj⟩
theorem at_rune {rs xs ys : List (List Int)} {r : List Int} {i j : Nat} (e : rs = xs ++ r :: ys) (hi : i = xs.flatten.length + j) (hj : j < r.length) : rs.flatten.getD i 0 = r.getD j 0 := by
 subst e; subst hi
 rw [List.flatten_append, List.flatten_cons, List.getD_eq_getElem?_getD, List.getD_eq_getElem?_getD, List.getElem?_append_right (by omega), Nat.add_sub_cancel_left, List.getElem?_append_left hj]
theorem inner_at {rs xs ys : List (List Int)} {r : List Int} {i j : Nat} (h : All rs) (e : rs = xs ++ r :: ys) (hi : i = xs.flatten.length + j) (hj : j < r.length) : In (rs.flatten.getD i 0) ↔ 0 < j := by
 rw [at_rune e hi hj]
 have hr : Rn r := h r (by simp [e])
 rcases r with _ | ⟨a, t⟩
 ·simp at hj
 rcases j with _ | j
 ·simpa using one_head hr
 ·simp at hj
  have := one_tail hr (t.getD j 0) (by rw [List.getD_eq_getElem?_getD, List.getElem?_eq_getElem hj]; simp)
  simpa using this

/-- The places, from b on. -/
def cum (b : Int) : List (List Int) → List Int
 | [] => [b]
 | r :: rs => b :: cum (b + r.length) rs
theorem cum_length (b : Int) (rs : List (List Int)) : (cum b rs).length = rs.length + 1 := by
 induction rs generalizing b with
 | nil => rfl
 | cons r rs ih => simp [cum, ih]
theorem cum_get (b : Int) (xs ys : List (List Int)) : (cum b (xs ++ ys)).getD xs.length 0 = b + xs.flatten.length := by
 induction xs generalizing b with
 | nil => cases ys <;> simp [cum]
 | cons r xs ih =>
  simp only [List.cons_append, cum, List.length_cons, List.getD_cons_succ, ih, List.flatten_cons, List.length_append]
  omega
theorem cum_cons (b : Int) (rs : List (List Int)) : ∃ t, cum b rs = b :: t ∧ t = (match rs with | [] => [] | r :: rs => cum (b + r.length) rs) := by
 cases rs <;> exact ⟨_, rfl, rfl⟩

/-! ### Bytes of strings -/
theorem bytes_len (s : ByteArray) : (bytesOf s).length = s.size := bytesOf_length s
theorem bytes_get (s : ByteArray) (i : Int) : bt s i = (bytesOf s).getD i.toNat 0 := (rd_bytesOf s i).symm
theorem bytes_range (s : ByteArray) : ∀ x ∈ bytesOf s, 0 ≤ x ∧ x ≤ 255 := by
 intro x hx
 simp only [bytesOf, List.mem_map] at hx
 obtain ⟨b, _, rfl⟩ := hx
 have := b.toNat_lt
 omega
theorem extract_list (s : ByteArray) (a b : Nat) : (s.extract a b).data.toList = (s.data.toList.drop a).take (b - a) := by
 rw [ByteArray.data_extract, Array.toList_extract]
theorem bytes_extract (s : ByteArray) (a b : Nat) : bytesOf (s.extract a b) = ((bytesOf s).drop a).take (b - a) := by
 simp only [bytesOf, extract_list, List.map_take, List.map_drop]
theorem bytes_drop (s : ByteArray) (a : Nat) : bytesOf (s.extract a s.size) = (bytesOf s).drop a := by
 rw [bytes_extract, List.take_of_length_le]
 rw [List.length_drop, bytes_len]; omega
theorem ba_ext {s t : ByteArray} (h : s.data.toList = t.data.toList) : s = t := by
 cases s; cases t; congr; exact Array.ext' h
theorem bytes_inj {s t : ByteArray} (h : bytesOf s = bytesOf t) : s = t := by
 apply ba_ext
 simp only [bytesOf] at h
 refine List.map_inj_right (f := fun b : UInt8 => (b.toNat : Int)) (fun a b e => ?_) |>.1 h
 exact UInt8.toNat_inj.1 (by omega)
theorem bytes_append (s t : ByteArray) : bytesOf (s ++ t) = bytesOf s ++ bytesOf t := by
 simp [bytesOf]
theorem bytes_nums {xs : List Int} (h : ∀ x ∈ xs, 0 ≤ x ∧ x ≤ 255) : bytesOf (strOfNums xs) = xs := by
 simp only [bytesOf, strOfNums, List.map_map]
 conv => rhs; rw [← List.map_id xs]
 apply List.map_congr_left
 intro x hx
 have := h x hx
 simp only [Function.comp, id, UInt8.toNat_ofNat']
 omega
theorem bytes_empty : bytesOf (⟨#[]⟩ : ByteArray) = [] := rfl
theorem toList_nil (s : ByteArray) : s.toList = ([] : List UInt8) ↔ bytesOf s = [] := by
 rw [ByteArray.toList_eq]; simp [bytesOf]
theorem toList_inj (s t : ByteArray) : s.toList = t.toList ↔ s = t := by
 rw [ByteArray.toList_eq, ByteArray.toList_eq]
 exact ⟨ba_ext, fun h => by rw [h]⟩
end Go.Proofs.Ytkiokimpblimcaa.Utf
