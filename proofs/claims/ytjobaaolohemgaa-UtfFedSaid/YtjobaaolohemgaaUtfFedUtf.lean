/- What the printed functions of layer 3, the program's and the document's, tell of any bytes, by the list of their runes.
   Template: Ytjobaaolohemgaa the seat's name, UtfFed the law's key. -/
import Derived.Test.YtjobaaolohemgaaUtf
import Derived.Test.YtjobaaolohemgaaOUtfFedx2
namespace Go.Proofs.Ytjobaaolohemgaa.UtfFedUtf
open Go.RowKit Go.Proofs.YtjobaaolohemgaaW.PrintWords Go.Proofs.YtjobaaolohemgaaW.PrintLast Go.Proofs.YtjobaaolohemgaaW.PrintMore
open Go.Proofs.Ytjobaaolohemgaa.PUtfFed Go.Proofs.Ytjobaaolohemgaa.Utf

theorem wrap_id {x : Int} (h : -9223372036854775808 ≤ x) (h' : x ≤ 9223372036854775807) : wrap64 x = x := by unfold wrap64; omega
theorem i64_range {n : Int} (h : (Lit.int .i64 n).wf = true) : -9223372036854775808 ≤ n ∧ n ≤ 9223372036854775807 := by
  simp only [Lit.wf] at h; have := h
  simp [IntKind.min, IntKind.max, IntKind.signed, IntKind.bits] at this
  omega
theorem u8_range {n : Int} (h : (Lit.int .u8 n).wf = true) : 0 ≤ n ∧ n ≤ 255 := by
  simp only [Lit.wf] at h; have := h
  simp [IntKind.min, IntKind.max, IntKind.signed, IntKind.bits] at this
  omega
theorem ev_const {α : Type} {g : Nat → Option α} {r : α} (h : ∀ k, g k = some r) : Ev g r := ⟨0, fun k _ => h k⟩
theorem ev_from {α : Type} {g : Nat → Option α} {r : α} (K : Nat) (h : ∀ k, g (k + K) = some r) : Ev g r := ⟨K, fun k hk => by
  have := h (k - K); rwa [Nat.sub_add_cancel hk] at this⟩
theorem ev_off {α : Type} {g : Nat → Option α} {r : α} (K : Nat) (h : Ev (fun k => g (k + K)) r) : Ev g r := by
  obtain ⟨J, hJ⟩ := h
  exact ⟨J + K, fun k hk => by have := hJ (k - K) (by omega); simp only at this; rwa [Nat.sub_add_cancel (by omega)] at this⟩
theorem ev_bind {α β : Type} {g : Nat → Option α} {f : Nat → α → Option β} {a : α} {r : β} (h : Ev g a) (k : Ev (fun n => f n a) r) : Ev (fun n => (g n).bind (f n)) r := Ev.bind h k
theorem ev_pos {α : Type} {c : Prop} [Decidable c] {a b : Nat → Option α} {r : α} (h : c) (k : Ev a r) : Ev (fun n => if c then a n else b n) r := by
  obtain ⟨K, hK⟩ := k
  exact ⟨K, fun n hn => by simp only [if_pos h]; exact hK n hn⟩
theorem ev_neg {α : Type} {c : Prop} [Decidable c] {a b : Nat → Option α} {r : α} (h : ¬ c) (k : Ev b r) : Ev (fun n => if c then a n else b n) r := by
  obtain ⟨K, hK⟩ := k
  exact ⟨K, fun n hn => by simp only [if_neg h]; exact hK n hn⟩
theorem bytes_at {s : ByteArray} {a : Int} {p t : List Int} (e : bytesOf s = p ++ a :: t) (i : Int) (hi : i = p.length) : bt s i = a := by
  rw [bytes_get, e, hi, Int.toNat_natCast, List.getD_eq_getElem?_getD, List.getElem?_append_right (Nat.le_refl _), Nat.sub_self]; rfl
theorem size_of {s : ByteArray} {l : List Int} (e : bytesOf s = l) : s.size = l.length := by rw [← e, bytes_len]

theorem begins_step1 (k : Nat) (s : ByteArray) (n lo hi : Int) (h1 : 1 < n) (h2 : 1 < (s.size : Int)) :
    utf_begins.l0 (k + 2) s 1 n lo hi = if lo ≤ bt s 1 ∧ bt s 1 ≤ hi then utf_begins.l0 k s 2 n lo hi else some (0, 0) := by
  rw [utf_begins.l0, if_pos h1, utf_begins.j1, if_pos (by simpa using h2), wrap_id (by omega) (by omega), if_pos rfl, if_pos (by omega), if_pos h2]
  by_cases a : bt s 1 < lo
  · rw [if_pos a, if_neg (by omega)]
  · rw [if_neg a]
    by_cases b : bt s 1 > hi
    · rw [if_pos b, if_neg (by omega)]
    · rw [if_neg b, if_pos (by omega)]; rfl
theorem begins_step2 (k : Nat) (s : ByteArray) (i n lo hi : Int) (h0 : 2 ≤ i) (h4 : i ≤ 4) (h1 : i < n) (h2 : i < (s.size : Int)) :
    utf_begins.l0 (k + 2) s i n lo hi = if In (bt s i) then utf_begins.l0 k s (i + 1) n lo hi else some (0, 0) := by
  rw [utf_begins.l0, if_pos h1, utf_begins.j1, if_pos (by simpa using h2), wrap_id (by omega) (by omega), if_neg (by omega), if_pos (by omega), if_pos h2]
  by_cases a : bt s i < 128
  · rw [if_pos a, if_neg (by unfold In; omega)]
  · rw [if_neg a]
    by_cases b : bt s i > 191
    · rw [if_pos b, if_neg (by unfold In; omega)]
    · rw [if_neg b, if_pos (by unfold In; omega)]
theorem begins_stop (k : Nat) (s : ByteArray) (i n lo hi : Int) (h : ¬ (i < n ∧ i < (s.size : Int))) :
    utf_begins.l0 (k + 2) s i n lo hi = some (mn s.size n, n) := by
  rw [utf_begins.l0]
  by_cases h1 : i < n
  · rw [if_pos h1, utf_begins.j1, if_neg (by simp; omega)]
  · rw [if_neg h1, utf_begins.j1, if_neg (by simp)]

theorem begins_any (s : ByteArray) : Ev (fun k => utf_begins.f k s) (beg (bytesOf s)) := by
  refine ev_from 12 fun k => ?_
  show utf_begins.f (k + 12) s = _
  have hb := bytes_range s
  unfold utf_begins.f
  rcases e : bytesOf s with _ | ⟨a, t⟩
  · rw [if_pos ((toList_nil s).2 e)]; rfl
  rw [if_neg (fun h => by rw [toList_nil, e] at h; simp at h), if_pos (by rw [size_of e, List.length_cons]; omega)]
  have ha := bytes_at (p := []) e 0 (by simp)
  have hs := size_of e
  rw [e] at hb
  have hr := hb a (by simp)
  rw [ha]
  have first_ : utf_first.f a = some (if a < 128 then (1, 0, 0) else if a < 194 then (0, 0, 0) else if a < 224 then (2, 128, 191) else if a < 240 then (3, if a = 224 then 160 else 128, if a = 237 then 159 else 191) else if a < 245 then (4, if a = 240 then 144 else 128, if a = 244 then 143 else 191) else (0, 0, 0)) := by
    unfold utf_first.f
    repeat' split
    all_goals first | rfl | omega
  rw [first_]
  simp only [Option.bind_some]
  have hmn : ∀ n : Int, mn (s.size : Int) n = if n < s.size then n else s.size := fun n => rfl
  by_cases h1 : a < 128
  · rw [if_pos h1, begins_stop _ _ _ _ _ _ (by simp)]
    simp only [beg]
    rw [if_pos h1, hmn, hs, List.length_cons]
    split
    · rfl
    · congr 2; omega
  rw [if_neg h1]
  by_cases h2 : a < 194
  · rw [if_pos h2, begins_stop _ _ _ _ _ _ (by simp)]
    simp only [beg]
    rw [if_neg h1, if_pos h2, hmn, if_pos (by rw [hs, List.length_cons]; omega)]
  rw [if_neg h2]
  by_cases h3 : a < 224
  · rw [if_pos h3]
    simp only [beg]
    rw [if_neg h1, if_neg h2, if_pos h3]
    rcases t with _ | ⟨b, t⟩
    · rw [begins_stop _ _ _ _ _ _ (by simp [hs]), hmn, if_neg (by simp [hs]), hs]; rfl
    · have hbt := bytes_at (p := [a]) e 1 (by simp)
      rw [begins_step1 _ _ _ _ _ (by omega) (by rw [hs]; simp; omega), hbt]
      simp only
      by_cases hB : B2 a b
      · rw [if_pos hB, if_pos (by unfold B2 at hB; omega), begins_stop _ _ _ _ _ _ (by omega), hmn]
        congr 2
        rw [hs]; simp only [List.length_cons]; split <;> omega
      · rw [if_neg hB, if_neg (by unfold B2 at hB; omega)]
  rw [if_neg h3]
  by_cases h4 : a < 240
  · rw [if_pos h4]
    simp only [beg]
    rw [if_neg h1, if_neg h2, if_neg h3, if_pos h4]
    rcases t with _ | ⟨b, t⟩
    · rw [begins_stop _ _ _ _ _ _ (by simp [hs]), hmn, if_neg (by simp [hs]), hs]; rfl
    · have hbt := bytes_at (p := [a]) e 1 (by simp)
      have hbr := hb b (by simp)
      rw [begins_step1 _ _ _ _ _ (by omega) (by rw [hs]; simp; omega), hbt]
      have eB : ((if a = 224 then 160 else 128) ≤ b ∧ b ≤ (if a = 237 then 159 else 191)) ↔ B2 a b := by unfold B2; split <;> split <;> omega
      simp only [eB]
      rcases t with _ | ⟨c, t⟩
      · by_cases hB : B2 a b
        · rw [if_pos hB, begins_stop _ _ _ _ _ _ (by simp [hs]), hmn, if_neg (by simp [hs]), hs]; simp [hB]
        · rw [if_neg hB]; simp [hB]
      · have hct := bytes_at (p := [a, b]) e 2 (by simp)
        by_cases hB : B2 a b
        · rw [if_pos hB, begins_step2 _ _ _ _ _ _ (by omega) (by omega) (by omega) (by rw [hs]; simp; omega), hct]
          by_cases hC : In c
          · rw [if_pos hC, begins_stop _ _ _ _ _ _ (by omega), hmn]
            simp only [hB, hC, and_self, if_true]
            congr 2
            rw [hs]; simp only [List.length_cons]; split <;> omega
          · rw [if_neg hC]; simp [hC]
        · rw [if_neg hB]; simp [hB]
  rw [if_neg h4]
  by_cases h5 : a < 245
  · rw [if_pos h5]
    simp only [beg]
    rw [if_neg h1, if_neg h2, if_neg h3, if_neg h4, if_pos h5]
    rcases t with _ | ⟨b, t⟩
    · rw [begins_stop _ _ _ _ _ _ (by simp [hs]), hmn, if_neg (by simp [hs]), hs]; rfl
    · have hbt := bytes_at (p := [a]) e 1 (by simp)
      have hbr := hb b (by simp)
      rw [begins_step1 _ _ _ _ _ (by omega) (by rw [hs]; simp; omega), hbt]
      have eB : ((if a = 240 then 144 else 128) ≤ b ∧ b ≤ (if a = 244 then 143 else 191)) ↔ B2 a b := by unfold B2; split <;> split <;> omega
      simp only [eB]
      rcases t with _ | ⟨c, t⟩
      · by_cases hB : B2 a b
        · rw [if_pos hB, begins_stop _ _ _ _ _ _ (by simp [hs]), hmn, if_neg (by simp [hs]), hs]; simp [hB]
        · rw [if_neg hB]; simp [hB]
      · have hct := bytes_at (p := [a, b]) e 2 (by simp)
        by_cases hB : B2 a b
        · rw [if_pos hB, begins_step2 _ _ _ _ _ _ (by omega) (by omega) (by omega) (by rw [hs]; simp; omega), hct]
          simp only [show (2 : Int) + 1 = 3 from rfl]
          rcases t with _ | ⟨d, t⟩
          · by_cases hC : In c
            · rw [if_pos hC, begins_stop _ _ _ _ _ _ (by simp [hs]), hmn, if_neg (by simp [hs]), hs]; simp [hB, hC]
            · rw [if_neg hC]; simp [hC]
          · have hdt := bytes_at (p := [a, b, c]) e 3 (by simp)
            by_cases hC : In c
            · rw [if_pos hC, begins_step2 _ _ _ _ _ _ (by omega) (by omega) (by omega) (by rw [hs]; simp; omega), hdt]
              by_cases hD : In d
              · rw [if_pos hD, begins_stop _ _ _ _ _ _ (by omega), hmn]
                simp only [hB, hC, hD, and_self, if_true]
                congr 2
                rw [hs]; simp only [List.length_cons]; split <;> omega
              · rw [if_neg hD]; simp [hD]
            · rw [if_neg hC]; simp [hC]
        · rw [if_neg hB]
          rcases t with _ | ⟨d, t⟩ <;> simp [hB]
  · rw [if_neg h5, begins_stop _ _ _ _ _ _ (by simp)]
    simp only [beg]
    rw [if_neg h1, if_neg h2, if_neg h3, if_neg h4, if_neg h5, hmn, if_pos (by rw [hs, List.length_cons]; omega)]


theorem size_any (s : ByteArray) : Ev (fun k => utf_size.f k s) (if (beg (bytesOf s)).1 < (beg (bytesOf s)).2 then 0 else (beg (bytesOf s)).2) := by
  unfold utf_size.f
  refine ev_bind (begins_any s) ?_
  split <;> exact Ev.now _
theorem size_one {s : ByteArray} {r t : List Int} (h : Rn r) (e : bytesOf s = r ++ t) : Ev (fun k => utf_size.f k s) (r.length : Int) := by
  have := size_any s
  rw [e, beg_one h t] at this
  simpa using this
theorem size_none {s : ByteArray} (h : ∀ r t, Rn r → bytesOf s ≠ r ++ t) : Ev (fun k => utf_size.f k s) 0 := by
  have := size_any s
  rcases beg_cases (bytesOf s) with e | ⟨r, t, hr, e⟩ | hh | ⟨_, e⟩
  · rw [e] at this; simpa [beg] using this
  · exact absurd e (h r t hr)
  · have hb := beg_half hh
    rw [if_pos (by omega)] at this; exact this
  · rw [e] at this; simpa using this
theorem val_or (l : List Int) : l = [] ∨ (∃ r t, Rn r ∧ l = r ++ t) ∨ (l ≠ [] ∧ ¬ Val l ∧ ∀ r t, Rn r → l ≠ r ++ t) := by
  rcases beg_cases l with e | h | hh | ⟨h, e⟩
  · exact .inl e
  · exact .inr (.inl h)
  · exact .inr (.inr ⟨by rintro rfl; simp [Half] at hh, val_half hh, fun r t hr => half_not_one hh hr⟩)
  · refine .inr (.inr ⟨h, val_bad h e, ?_⟩)
    rintro r t hr rfl
    rw [beg_one hr t] at e
    have := one_len hr
    have h2 := congrArg Prod.fst e
    simp only at h2
    omega
theorem valid_l (n : Nat) : ∀ s : ByteArray, s.size ≤ n → ∃ b, Ev (fun k => utf_Valid.l0 k s) b ∧ (b = true ↔ Val (bytesOf s)) := by
  induction n with
  | zero =>
    intro s hs
    have e : bytesOf s = [] := List.eq_nil_of_length_eq_zero (by rw [bytes_len]; omega)
    refine ⟨true, ev_from 1 fun k => ?_, by simp [e, val_nil]⟩
    simp only [utf_Valid.l0]
    rw [if_pos ((toList_nil s).2 e)]
  | succ n ih =>
    intro s hs
    rcases val_or (bytesOf s) with e | ⟨r, t, hr, e⟩ | ⟨hne, hv, hno⟩
    · refine ⟨true, ev_from 1 fun k => ?_, by simp [e, val_nil]⟩
      simp only [utf_Valid.l0]
      rw [if_pos ((toList_nil s).2 e)]
    · have hl := one_len hr
      have hsz : r.length ≤ s.size := by rw [size_of e, List.length_append]; omega
      have hd : bytesOf (s.extract r.length s.size) = t := by rw [bytes_drop, e, List.drop_left]
      obtain ⟨b, hb, hv⟩ := ih (s.extract r.length s.size) (by rw [← bytes_len, hd]; have := size_of e; rw [List.length_append] at this; omega)
      refine ⟨b, ?_, by rw [hv, hd, e, val_one hr]⟩
      refine Ev.step (f := fun k => (utf_size.f k s).bind fun t116 => (if t116 = 0 then (some false) else (if 0 ≤ t116 then (if t116 ≤ (s.size : Int) then (utf_Valid.l0 k (s.extract (t116 : Int).toNat s.size)) else (none)) else (none)))) (fun k => ?_) ?_
      · simp only [utf_Valid.l0]
        rw [if_neg (fun h => by rw [toList_nil, e] at h; have := one_ne hr; simp_all)]
      · refine ev_bind (size_one hr e) ?_
        exact ev_neg (by omega) (ev_pos (by omega) (ev_pos (by omega) hb))
    · refine ⟨false, ?_, by simp [hv]⟩
      refine Ev.step (f := fun k => (utf_size.f k s).bind fun t116 => (if t116 = 0 then (some false) else (if 0 ≤ t116 then (if t116 ≤ (s.size : Int) then (utf_Valid.l0 k (s.extract (t116 : Int).toNat s.size)) else (none)) else (none)))) (fun k => ?_) ?_
      · simp only [utf_Valid.l0]
        rw [if_neg (fun h => by rw [toList_nil] at h; exact hne h)]
      · refine ev_bind (size_none hno) ?_
        simp only [↓reduceIte]
        exact Ev.now _
theorem valid_yes {s : ByteArray} (h : Val (bytesOf s)) : Ev (fun k => utf_Valid.f k s) true := by
  obtain ⟨b, hb, hv⟩ := valid_l s.size s (Nat.le_refl _)
  rw [← hv.2 h]; exact hb
theorem valid_no {s : ByteArray} (h : ¬ Val (bytesOf s)) : Ev (fun k => utf_Valid.f k s) false := by
  obtain ⟨b, hb, hv⟩ := valid_l s.size s (Nat.le_refl _)
  cases b
  · exact hb
  · exact absurd (hv.1 rfl) h

theorem bad_val {l t : List Int} {b : Int} (hl : l = [] ∨ Half l) (h1 : ¬ Rn (l ++ [b])) (h2 : ¬ Half (l ++ [b])) : ¬ Val (l ++ [b] ++ t) := by
  rintro ⟨rs, hs, e⟩
  rcases rs with _ | ⟨r, rs⟩
  · simp at e
  rw [List.flatten_cons] at e
  have hr := hs.head
  rcases Nat.lt_trichotomy r.length (l ++ [b]).length with g | g | g
  · rcases hl with rfl | hl
    · have := one_len hr; simp only [List.nil_append, List.length_singleton] at g; omega
    · have : r <+: l := List.prefix_of_prefix_length_le (l₃ := l ++ [b] ++ t) ⟨rs.flatten, e.symm⟩ ⟨[b] ++ t, by simp⟩ (by simp at g; omega)
      obtain ⟨z, hz⟩ := this
      exact half_not_one hl hr hz.symm
  · have := List.append_inj e g.symm
    rw [this.1] at h1; exact h1 hr
  · have : l ++ [b] <+: r := List.prefix_of_prefix_length_le (l₃ := l ++ [b] ++ t) ⟨t, rfl⟩ ⟨rs.flatten, e.symm⟩ (by omega)
    obtain ⟨z, rfl⟩ := this
    refine h2 ?_
    clear e h1 h2
    have hz : z ≠ [] := by rintro rfl; simp at g
    have hy : l ++ [b] ≠ [] := by simp
    generalize l ++ [b] = y at *
    clear hl g
    rcases y with _ | ⟨a1, _ | ⟨a2, _ | ⟨a3, _ | ⟨a4, y⟩⟩⟩⟩ <;> rcases z with _ | ⟨z1, _ | ⟨z2, _ | ⟨z3, _ | ⟨z4, z⟩⟩⟩⟩ <;> simp_all [Rn, Half, B2, In] <;> omega
/-- What a byte more makes of a part of a rune. -/
def Fed (l : List Int) (b : Int) (h r : List Int) (e : Int) : Prop :=
  (l ≠ [] ∧ ¬ Half l ∧ h = [] ∧ r = [] ∧ e = 1) ∨
  ((l = [] ∨ Half l) ∧ ((Rn (l ++ [b]) ∧ h = [] ∧ r = l ++ [b] ∧ e = 0) ∨ (Half (l ++ [b]) ∧ h = l ++ [b] ∧ r = [] ∧ e = 0) ∨
    (¬ Rn (l ++ [b]) ∧ ¬ Half (l ++ [b]) ∧ h = [] ∧ r = [] ∧ e = 5)))
theorem fed_inj {l h r h' r' : List Int} {b e e' : Int} (x : Fed l b h r e) (y : Fed l b h' r' e') : h = h' ∧ r = r' ∧ e = e' := by
  have no : ∀ l, Half l → ¬ Rn l := fun l hl hr => half_not_one hl hr (List.append_nil l).symm
  rcases x with ⟨a1, a2, rfl, rfl, rfl⟩ | ⟨a1, a2⟩ <;> rcases y with ⟨b1, b2, rfl, rfl, rfl⟩ | ⟨b1, b2⟩
  · simp
  · rcases b1 with b1 | b1 <;> contradiction
  · rcases a1 with a1 | a1 <;> contradiction
  · rcases a2 with ⟨a2, rfl, rfl, rfl⟩ | ⟨a2, rfl, rfl, rfl⟩ | ⟨a2, a3, rfl, rfl, rfl⟩ <;> rcases b2 with ⟨b2, rfl, rfl, rfl⟩ | ⟨b2, rfl, rfl, rfl⟩ | ⟨b2, b3, rfl, rfl, rfl⟩ <;> first | exact ⟨rfl, rfl, rfl⟩ | exact absurd a2 (no _ b2) | exact absurd b2 (no _ a2) | contradiction
theorem snoc_size (s : ByteArray) (b : Int) : s.size + (strOfNums [b]).size = s.size + 1 := by rw [strOfNums_size]; rfl
theorem bytes_snoc (s : ByteArray) {b : Int} (hb : 0 ≤ b ∧ b ≤ 255) : bytesOf (s ++ strOfNums [b]) = bytesOf s ++ [b] := by
  rw [bytes_append, bytes_nums (by simpa using hb)]
theorem feed_j (s : ByteArray) (b : Int) (hs : s.size ≤ 140737488351232) (hb : 0 ≤ b ∧ b ≤ 255) (hl : bytesOf s = [] ∨ Half (bytesOf s)) :
    ∃ h r e, Ev (fun k => utf_Feed.j0 k s b false) (h, r, e) ∧ Fed (bytesOf s) b (bytesOf h) (bytesOf r) e := by
  have hsn := bytes_snoc s hb
  have key : ∀ p q, Ev (fun k => if p = (0 : Int) then some ((⟨#[]⟩ : ByteArray), (⟨#[]⟩ : ByteArray), (5 : Int)) else if q = p then some ((⟨#[]⟩ : ByteArray), s ++ strOfNums [b], 0) else some (s ++ strOfNums [b], (⟨#[]⟩ : ByteArray), 0)) (if p = 0 then ((⟨#[]⟩ : ByteArray), (⟨#[]⟩ : ByteArray), (5 : Int)) else if q = p then ((⟨#[]⟩ : ByteArray), s ++ strOfNums [b], 0) else (s ++ strOfNums [b], (⟨#[]⟩ : ByteArray), 0)) := by
    intro p q
    refine ev_const fun k => ?_
    split
    · rfl
    · split <;> rfl
  have all : Ev (fun k => utf_Feed.j0 k s b false) (if (beg (bytesOf s ++ [b])).2 = 0 then ((⟨#[]⟩ : ByteArray), (⟨#[]⟩ : ByteArray), (5 : Int)) else if (beg (bytesOf s ++ [b])).1 = (beg (bytesOf s ++ [b])).2 then ((⟨#[]⟩ : ByteArray), s ++ strOfNums [b], 0) else (s ++ strOfNums [b], (⟨#[]⟩ : ByteArray), 0)) := by
    refine Ev.step (f := fun k => (utf_begins.f k (s ++ strOfNums [b])).bind fun bt112 => (if bt112.2 = 0 then (some ((⟨#[]⟩ : ByteArray), (⟨#[]⟩ : ByteArray), (5 : Int))) else (if bt112.1 = bt112.2 then (some ((⟨#[]⟩ : ByteArray), s ++ strOfNums [b], 0)) else (some (s ++ strOfNums [b], (⟨#[]⟩ : ByteArray), 0))))) (fun k => ?_) ?_
    · rw [utf_Feed.j0, if_neg (by simp)]
      simp only [Option.bind_some]
      rw [if_pos (by rw [snoc_size]; omega)]
    · refine ev_bind (begins_any _) ?_
      rw [hsn]
      exact key _ _
  rcases beg_cases (bytesOf s ++ [b]) with e | ⟨r, t, hr, e⟩ | hh | ⟨_, e⟩
  · simp at e
  · have ht : t = [] := by
      rcases List.eq_nil_or_concat t with rfl | ⟨t', x, rfl⟩
      · rfl
      · exfalso
        rw [List.concat_eq_append, ← List.append_assoc] at e
        have := (List.append_inj' e rfl).1
        rcases hl with hl | hl
        · rw [hl] at this; simp at this; exact one_ne hr this.1
        · exact half_not_one hl hr this
    subst ht
    rw [List.append_nil] at e
    have hbg := beg_one hr []
    rw [List.append_nil, ← e] at hbg
    have h14 := one_len hr
    rw [hbg, if_neg (by rw [e]; simp only; omega), if_pos rfl] at all
    refine ⟨_, _, _, all, .inr ⟨hl, .inl ⟨by rw [e]; exact hr, rfl, hsn, rfl⟩⟩⟩
  · have hbg := beg_half hh
    rw [if_neg (by rw [List.length_append] at hbg; omega), if_neg (by omega)] at all
    exact ⟨_, _, _, all, .inr ⟨hl, .inr (.inl ⟨hh, hsn, rfl, rfl⟩)⟩⟩
  · rw [e, if_pos rfl] at all
    refine ⟨_, _, _, all, .inr ⟨hl, .inr (.inr ⟨fun hr => ?_, fun hh => ?_, rfl, rfl, rfl⟩)⟩⟩
    · have hbg := beg_one hr []
      rw [List.append_nil, e] at hbg
      have := one_len hr
      have h2 := congrArg Prod.fst hbg
      simp only at h2; omega
    · have := beg_half hh
      rw [e] at this; simp only at this; omega
theorem feed_any (s : ByteArray) (b : Int) (hs : s.size ≤ 140737488351232) (hb : 0 ≤ b ∧ b ≤ 255) :
    ∃ h r e, Ev (fun k => utf_Feed.f k s b) (h, r, e) ∧ Fed (bytesOf s) b (bytesOf h) (bytesOf r) e := by
  have jt : Ev (fun k => utf_Feed.j0 k s b true) ((⟨#[]⟩ : ByteArray), (⟨#[]⟩ : ByteArray), (1 : Int)) := by
    refine ev_from 1 fun k => ?_
    show utf_Feed.j0 (k + 1) s b true = _
    rw [utf_Feed.j0, if_pos rfl]
  have hlen := bytes_len s
  by_cases h0 : bytesOf s = []
  · obtain ⟨h, r, e, q, f⟩ := feed_j s b hs hb (.inl h0)
    refine ⟨h, r, e, ?_, f⟩
    unfold utf_Feed.f
    exact ev_bind (begins_any s) (ev_pos ((toList_nil s).2 h0) q)
  have hn : ¬ s.toList = ([] : List UInt8) := fun h => h0 ((toList_nil s).1 h)
  rcases beg_cases (bytesOf s) with e | ⟨r, t, hr, e⟩ | hh | ⟨_, e⟩
  · exact absurd e h0
  · have hx : ¬ Half (bytesOf s) := fun hh => half_not_one hh hr e
    refine ⟨_, _, _, ?_, .inl ⟨h0, hx, bytes_empty, bytes_empty, rfl⟩⟩
    unfold utf_Feed.f
    refine ev_bind (begins_any s) (ev_neg hn ?_)
    rw [e, beg_one hr t]
    by_cases g : ((r.length : Int), (r.length : Int)).1 = (s.size : Int)
    · refine ev_pos g ?_
      simpa using jt
    · exact ev_neg g jt
  · obtain ⟨h, r, e, q, f⟩ := feed_j s b hs hb (.inr hh)
    refine ⟨h, r, e, ?_, f⟩
    have hbg := beg_half hh
    unfold utf_Feed.f
    refine ev_bind (begins_any s) (ev_neg hn (ev_pos (by omega) ?_))
    rwa [decide_eq_false (by omega)]
  · have hx : ¬ Half (bytesOf s) := fun hh => by have := beg_half hh; rw [e] at this; simp only at this; omega
    refine ⟨_, _, _, ?_, .inl ⟨h0, hx, bytes_empty, bytes_empty, rfl⟩⟩
    unfold utf_Feed.f
    refine ev_bind (begins_any s) (ev_neg hn (ev_neg ?_ jt))
    rw [e, ← hlen]
    have : (bytesOf s).length ≠ 0 := fun h => h0 (List.eq_nil_of_length_eq_zero h)
    simp only; omega
end Go.Proofs.Ytjobaaolohemgaa.UtfFedUtf
