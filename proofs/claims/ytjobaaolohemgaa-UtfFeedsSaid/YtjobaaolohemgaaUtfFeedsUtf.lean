/- What the printed functions of layer 3, the program's and the document's, tell of any bytes, by the list of their runes.
   Template: Ytjobaaolohemgaa the seat's name, UtfFeeds the law's key. -/
import Derived.Test.YtjobaaolohemgaaUtf
import Derived.Test.YtjobaaolohemgaaOUtfFeedsx3
namespace Go.Proofs.Ytjobaaolohemgaa.UtfFeedsUtf
open Go.RowKit Go.Proofs.YtjobaaolohemgaaW.PrintWords Go.Proofs.YtjobaaolohemgaaW.PrintLast Go.Proofs.YtjobaaolohemgaaW.PrintMore
open Go.Proofs.Ytjobaaolohemgaa.PUtfFeeds Go.Proofs.Ytjobaaolohemgaa.Utf

theorem wrap_id {x : Int} (h : -9223372036854775808 ≤ x) (h' : x ≤ 9223372036854775807) : wrap64 x = x := by unfold wrap64; omega
theorem i64_range {n : Int} (h : (Lit.int .i64 n).wf = true) : -9223372036854775808 ≤ n ∧ n ≤ 9223372036854775807 := by
  simp only [Lit.wf] at h; have := h
  simp [IntKind.min, IntKind.max, IntKind.signed, IntKind.bits] at this
  omega
theorem u8_range {n : Int} (h : (Lit.int .u8 n).wf = true) : 0 ≤ n ∧ n ≤ 255 := by
  simp only [Lit.wf] at h; have := h
  simp [IntKind.min, IntKind.max, IntKind.signed, IntKind.bits] at this
  omega
theorem ev_const {α : Type} {g : Nat → Option α} {r : α} (h : ∀ k, g k = some r) : Ev g r := ⟨0, fun k _ => h k⟩
theorem ev_from {α : Type} {g : Nat → Option α} {r : α} (K : Nat) (h : ∀ k, g (k + K) = some r) : Ev g r := ⟨K, fun k hk => by
  have := h (k - K); rwa [Nat.sub_add_cancel hk] at this⟩
theorem ev_off {α : Type} {g : Nat → Option α} {r : α} (K : Nat) (h : Ev (fun k => g (k + K)) r) : Ev g r := by
  obtain ⟨J, hJ⟩ := h
  exact ⟨J + K, fun k hk => by have := hJ (k - K) (by omega); simp only at this; rwa [Nat.sub_add_cancel (by omega)] at this⟩
theorem ev_bind {α β : Type} {g : Nat → Option α} {f : Nat → α → Option β} {a : α} {r : β} (h : Ev g a) (k : Ev (fun n => f n a) r) : Ev (fun n => (g n).bind (f n)) r := Ev.bind h k
theorem ev_pos {α : Type} {c : Prop} [Decidable c] {a b : Nat → Option α} {r : α} (h : c) (k : Ev a r) : Ev (fun n => if c then a n else b n) r := by
  obtain ⟨K, hK⟩ := k
  exact ⟨K, fun n hn => by simp only [if_pos h]; exact hK n hn⟩
theorem ev_neg {α : Type} {c : Prop} [Decidable c] {a b : Nat → Option α} {r : α} (h : ¬ c) (k : Ev b r) : Ev (fun n => if c then a n else b n) r := by
  obtain ⟨K, hK⟩ := k
  exact ⟨K, fun n hn => by simp only [if_neg h]; exact hK n hn⟩
theorem bytes_at {s : ByteArray} {a : Int} {p t : List Int} (e : bytesOf s = p ++ a :: t) (i : Int) (hi : i = p.length) : bt s i = a := by
  rw [bytes_get, e, hi, Int.toNat_natCast, List.getD_eq_getElem?_getD, List.getElem?_append_right (Nat.le_refl _), Nat.sub_self]; rfl
theorem size_of {s : ByteArray} {l : List Int} (e : bytesOf s = l) : s.size = l.length := by rw [← e, bytes_len]

theorem begins_step1 (k : Nat) (s : ByteArray) (n lo hi : Int) (h1 : 1 < n) (h2 : 1 < (s.size : Int)) :
    utf_begins.l0 (k + 2) s 1 n lo hi = if lo ≤ bt s 1 ∧ bt s 1 ≤ hi then utf_begins.l0 k s 2 n lo hi else some (0, 0) := by
  rw [utf_begins.l0, if_pos h1, utf_begins.j1, if_pos (by simpa using h2), wrap_id (by omega) (by omega), if_pos rfl, if_pos (by omega), if_pos h2]
  by_cases a : bt s 1 < lo
  · rw [if_pos a, if_neg (by omega)]
  · rw [if_neg a]
    by_cases b : bt s 1 > hi
    · rw [if_pos b, if_neg (by omega)]
    · rw [if_neg b, if_pos (by omega)]; rfl
theorem begins_step2 (k : Nat) (s : ByteArray) (i n lo hi : Int) (h0 : 2 ≤ i) (h4 : i ≤ 4) (h1 : i < n) (h2 : i < (s.size : Int)) :
    utf_begins.l0 (k + 2) s i n lo hi = if In (bt s i) then utf_begins.l0 k s (i + 1) n lo hi else some (0, 0) := by
  rw [utf_begins.l0, if_pos h1, utf_begins.j1, if_pos (by simpa using h2), wrap_id (by omega) (by omega), if_neg (by omega), if_pos (by omega), if_pos h2]
  by_cases a : bt s i < 128
  · rw [if_pos a, if_neg (by unfold In; omega)]
  · rw [if_neg a]
    by_cases b : bt s i > 191
    · rw [if_pos b, if_neg (by unfold In; omega)]
    · rw [if_neg b, if_pos (by unfold In; omega)]
theorem begins_stop (k : Nat) (s : ByteArray) (i n lo hi : Int) (h : ¬ (i < n ∧ i < (s.size : Int))) :
    utf_begins.l0 (k + 2) s i n lo hi = some (mn s.size n, n) := by
  rw [utf_begins.l0]
  by_cases h1 : i < n
  · rw [if_pos h1, utf_begins.j1, if_neg (by simp; omega)]
  · rw [if_neg h1, utf_begins.j1, if_neg (by simp)]

theorem begins_any (s : ByteArray) : Ev (fun k => utf_begins.f k s) (beg (bytesOf s)) := by
  refine ev_from 12 fun k => ?_
  show utf_begins.f (k + 12) s = _
  have hb := bytes_range s
  unfold utf_begins.f
  rcases e : bytesOf s with _ | ⟨a, t⟩
  · rw [if_pos ((toList_nil s).2 e)]; rfl
  rw [if_neg (fun h => by rw [toList_nil, e] at h; simp at h), if_pos (by rw [size_of e, List.length_cons]; omega)]
  have ha := bytes_at (p := []) e 0 (by simp)
  have hs := size_of e
  rw [e] at hb
  have hr := hb a (by simp)
  rw [ha]
  have first_ : utf_first.f a = some (if a < 128 then (1, 0, 0) else if a < 194 then (0, 0, 0) else if a < 224 then (2, 128, 191) else if a < 240 then (3, if a = 224 then 160 else 128, if a = 237 then 159 else 191) else if a < 245 then (4, if a = 240 then 144 else 128, if a = 244 then 143 else 191) else (0, 0, 0)) := by
    unfold utf_first.f
    repeat' split
    all_goals first | rfl | omega
  rw [first_]
  simp only [Option.bind_some]
  have hmn : ∀ n : Int, mn (s.size : Int) n = if n < s.size then n else s.size := fun n => rfl
  by_cases h1 : a < 128
  · rw [if_pos h1, begins_stop _ _ _ _ _ _ (by simp)]
    simp only [beg]
    rw [if_pos h1, hmn, hs, List.length_cons]
    split
    · rfl
    · congr 2; omega
  rw [if_neg h1]
  by_cases h2 : a < 194
  · rw [if_pos h2, begins_stop _ _ _ _ _ _ (by simp)]
    simp only [beg]
    rw [if_neg h1, if_pos h2, hmn, if_pos (by rw [hs, List.length_cons]; omega)]
  rw [if_neg h2]
  by_cases h3 : a < 224
  · rw [if_pos h3]
    simp only [beg]
    rw [if_neg h1, if_neg h2, if_pos h3]
    rcases t with _ | ⟨b, t⟩
    · rw [begins_stop _ _ _ _ _ _ (by simp [hs]), hmn, if_neg (by simp [hs]), hs]; rfl
    · have hbt := bytes_at (p := [a]) e 1 (by simp)
      rw [begins_step1 _ _ _ _ _ (by omega) (by rw [hs]; simp; omega), hbt]
      simp only
      by_cases hB : B2 a b
      · rw [if_pos hB, if_pos (by unfold B2 at hB; omega), begins_stop _ _ _ _ _ _ (by omega), hmn]
        congr 2
        rw [hs]; simp only [List.length_cons]; split <;> omega
      · rw [if_neg hB, if_neg (by unfold B2 at hB; omega)]
  rw [if_neg h3]
  by_cases h4 : a < 240
  · rw [if_pos h4]
    simp only [beg]
    rw [if_neg h1, if_neg h2, if_neg h3, if_pos h4]
    rcases t with _ | ⟨b, t⟩
    · rw [begins_stop _ _ _ _ _ _ (by simp [hs]), hmn, if_neg (by simp [hs]), hs]; rfl
    · have hbt := bytes_at (p := [a]) e 1 (by simp)
      have hbr := hb b (by simp)
      rw [begins_step1 _ _ _ _ _ (by omega) (by rw [hs]; simp; omega), hbt]
      have eB : ((if a = 224 then 160 else 128) ≤ b ∧ b ≤ (if a = 237 then 159 else 191)) ↔ B2 a b := by unfold B2; split <;> split <;> omega
      simp only [eB]
      rcases t with _ | ⟨c, t⟩
      · by_cases hB : B2 a b
        · rw [if_pos hB, begins_stop _ _ _ _ _ _ (by simp [hs]), hmn, if_neg (by simp [hs]), hs]; simp [hB]
        · rw [if_neg hB]; simp [hB]
      · have hct := bytes_at (p := [a, b]) e 2 (by simp)
        by_cases hB : B2 a b
        · rw [if_pos hB, begins_step2 _ _ _ _ _ _ (by omega) (by omega) (by omega) (by rw [hs]; simp; omega), hct]
          by_cases hC : In c
          · rw [if_pos hC, begins_stop _ _ _ _ _ _ (by omega), hmn]
            simp only [hB, hC, and_self, if_true]
            congr 2
            rw [hs]; simp only [List.length_cons]; split <;> omega
          · rw [if_neg hC]; simp [hC]
        · rw [if_neg hB]; simp [hB]
  rw [if_neg h4]
  by_cases h5 : a < 245
  · rw [if_pos h5]
    simp only [beg]
    rw [if_neg h1, if_neg h2, if_neg h3, if_neg h4, if_pos h5]
    rcases t with _ | ⟨b, t⟩
    · rw [begins_stop _ _ _ _ _ _ (by simp [hs]), hmn, if_neg (by simp [hs]), hs]; rfl
    · have hbt := bytes_at (p := [a]) e 1 (by simp)
      have hbr := hb b (by simp)
      rw [begins_step1 _ _ _ _ _ (by omega) (by rw [hs]; simp; omega), hbt]
      have eB : ((if a = 240 then 144 else 128) ≤ b ∧ b ≤ (if a = 244 then 143 else 191)) ↔ B2 a b := by unfold B2; split <;> split <;> omega
      simp only [eB]
      rcases t with _ | ⟨c, t⟩
      · by_cases hB : B2 a b
        · rw [if_pos hB, begins_stop _ _ _ _ _ _ (by simp [hs]), hmn, if_neg (by simp [hs]), hs]; simp [hB]
        · rw [if_neg hB]; simp [hB]
      · have hct := bytes_at (p := [a, b]) e 2 (by simp)
        by_cases hB : B2 a b
        · rw [if_pos hB, begins_step2 _ _ _ _ _ _ (by omega) (by omega) (by omega) (by rw [hs]; simp; omega), hct]
          simp only [show (2 : Int) + 1 = 3 from rfl]
          rcases t with _ | ⟨d, t⟩
          · by_cases hC : In c
            · rw [if_pos hC, begins_stop _ _ _ _ _ _ (by simp [hs]), hmn, if_neg (by simp [hs]), hs]; simp [hB, hC]
            · rw [if_neg hC]; simp [hC]
          · have hdt := bytes_at (p := [a, b, c]) e 3 (by simp)
            by_cases hC : In c
            · rw [if_pos hC, begins_step2 _ _ _ _ _ _ (by omega) (by omega) (by omega) (by rw [hs]; simp; omega), hdt]
              by_cases hD : In d
              · rw [if_pos hD, begins_stop _ _ _ _ _ _ (by omega), hmn]
                simp only [hB, hC, hD, and_self, if_true]
                congr 2
                rw [hs]; simp only [List.length_cons]; split <;> omega
              · rw [if_neg hD]; simp [hD]
            · rw [if_neg hC]; simp [hC]
        · rw [if_neg hB]
          rcases t with _ | ⟨d, t⟩ <;> simp [hB]
  · rw [if_neg h5, begins_stop _ _ _ _ _ _ (by simp)]
    simp only [beg]
    rw [if_neg h1, if_neg h2, if_neg h3, if_neg h4, if_neg h5, hmn, if_pos (by rw [hs, List.length_cons]; omega)]


theorem number_one {s : ByteArray} {a : Int} (e : bytesOf s = [a]) : Ev (fun k => calamusref03_number.f k s) a := by
  refine ev_const fun k => ?_
  have hb := bytes_range s
  rw [e] at hb
  have hr := hb a (by simp)
  have ha := bytes_at (p := []) e 0 (by simp)
  unfold calamusref03_number.f
  rw [if_pos (by rw [size_of e]; rfl), if_pos (by rw [size_of e]; simp), ha, wrap_id (by omega) (by omega)]
theorem number_end (k : Nat) (s : ByteArray) (n i : Int) (h : ¬ i < (s.size : Int)) : calamusref03_number.l0 (k + 1) s n i = some n := by
  rw [calamusref03_number.l0, if_neg h]
theorem number_first (k : Nat) (s : ByteArray) (a : Int) (ha : bt s 0 = a) (hr : 0 ≤ a ∧ a ≤ 255) (h2 : 2 ≤ s.size) (h4 : s.size ≤ 4) :
    calamusref03_number.l0 (k + 1) s 0 0 = if a < (if s.size = 2 then 192 else if s.size = 3 then 224 else 240) then some (-1) else calamusref03_number.l0 k s (a - (if s.size = 2 then 192 else if s.size = 3 then 224 else 240)) 1 := by
  rw [calamusref03_number.l0, if_pos (by omega), if_pos (by omega), if_pos rfl]
  simp only [Option.bind_some]
  rw [if_pos (by omega), if_pos (by simp; omega), ha]
  have hrd : rd [0, 0, 192, 224, 240] (s.size : Int) = (if s.size = 2 then 192 else if s.size = 3 then 224 else 240) := by
    have h : s.size = 2 ∨ s.size = 3 ∨ s.size = 4 := by omega
    rcases h with h | h | h <;> rw [h] <;> rfl
  rw [hrd]
  have hx : (192 : Int) ≤ (if s.size = 2 then 192 else if s.size = 3 then 224 else 240) ∧ (if s.size = 2 then 192 else if s.size = 3 then 224 else 240) ≤ (240 : Int) := by (constructor <;> (repeat' split)) <;> omega
  generalize (if s.size = 2 then 192 else if s.size = 3 then 224 else (240 : Int)) = x at *
  rw [wrap_id (x := a) (by omega) (by omega), wrap_id (x := a - x) (by omega) (by omega)]
  by_cases h : a < x
  · rw [if_pos h, if_pos (by omega)]
  · rw [if_neg h, if_neg (by omega), wrap_id (x := 64 * 0) (by omega) (by omega), wrap_id (x := 64 * 0 + (a - x)) (by omega) (by omega), wrap_id (x := 0 + 1) (by omega) (by omega)]
    simp
theorem number_next (k : Nat) (s : ByteArray) (n i i1 b : Int) (hi : i + 1 = i1) (hb : bt s i = b) (hr : 0 ≤ b ∧ b ≤ 255) (h1 : 1 ≤ i) (h4 : i < (s.size : Int)) (hs : s.size ≤ 4) (hn : 0 ≤ n ∧ n ≤ 1000000) :
    calamusref03_number.l0 (k + 2) s n i = if In b then calamusref03_number.l0 k s (64 * n + (b - 128)) i1 else some (-1) := by
  subst hi
  rw [calamusref03_number.l0, if_pos h4, if_pos (by omega), if_neg (by omega), hb, wrap_id (x := b) (by omega) (by omega), wrap_id (x := b - 128) (by omega) (by omega)]
  by_cases h : b - 128 < 0
  · rw [if_pos h, calamusref03_number.j1, if_pos rfl, if_neg (by unfold In; omega)]
  · rw [if_neg h]
    by_cases h' : b - 128 > 63
    · rw [calamusref03_number.j1, if_pos (by simpa using h'), if_neg (by unfold In; omega)]
    · rw [calamusref03_number.j1, if_neg (by simpa using h'), if_neg h, if_pos (by unfold In; omega), wrap_id (x := 64 * n) (by omega) (by omega), wrap_id (x := 64 * n + (b - 128)) (by omega) (by omega), wrap_id (x := i + 1) (by omega) (by omega)]

def runeOf (n : Int) : List Int :=
  if n < 0 ∨ n > 1114111 ∨ (n ≥ 55296 ∧ n < 57344) then [] else if n < 128 then [n] else if n < 2048 then [192 + n / 64, 128 + n % 64]
  else if n < 65536 then [224 + n / 4096, 128 + n / 64 % 64, 128 + n % 64] else [240 + n / 262144, 128 + n / 4096 % 64, 128 + n / 64 % 64, 128 + n % 64]
theorem bytes_j0 (k : Nat) (n : Int) (h : 0 ≤ n ∧ n ≤ 1114111) (b : Bool) : calamusref03_Bytes.j0 (k + 1) n b = some (strOfNums (if b = true then [] else if n < 128 then [n] else if n < 2048 then [192 + n / 64, 128 + n % 64]
    else if n < 65536 then [224 + n / 4096, 128 + n / 64 % 64, 128 + n % 64] else [240 + n / 262144, 128 + n / 4096 % 64, 128 + n / 64 % 64, 128 + n % 64])) := by
  rw [calamusref03_Bytes.j0]
  have d1 : Int.tdiv n 64 = n / 64 := Int.tdiv_eq_ediv_of_nonneg h.1
  have d2 : Int.tdiv n 4096 = n / 4096 := Int.tdiv_eq_ediv_of_nonneg h.1
  have d3 : Int.tdiv n 262144 = n / 262144 := Int.tdiv_eq_ediv_of_nonneg h.1
  have m1 : Int.tmod n 64 = n % 64 := Int.tmod_eq_emod_of_nonneg h.1
  have m2 : Int.tmod (n / 64) 64 = n / 64 % 64 := Int.tmod_eq_emod_of_nonneg (by omega)
  have m3 : Int.tmod (n / 4096) 64 = n / 4096 % 64 := Int.tmod_eq_emod_of_nonneg (by omega)
  rw [d1, d2, d3, m1, wrap_id (x := n / 64) (by omega) (by omega), wrap_id (x := n / 4096) (by omega) (by omega), wrap_id (x := n / 262144) (by omega) (by omega), m2, m3]
  cases b
  · simp only [Bool.false_eq_true, if_false]
    by_cases h1 : n < 128
    · rw [if_pos h1, if_pos h1]; congr 3; omega
    rw [if_neg h1, if_neg h1]
    by_cases h2 : n < 2048
    · rw [if_pos h2, if_pos h2, wrap_id (x := 192 + n / 64) (by omega) (by omega), wrap_id (x := 128 + n % 64) (by omega) (by omega)]
      congr 3
      · omega
      · congr 1; omega
    rw [if_neg h2, if_neg h2]
    by_cases h3 : n < 65536
    · rw [if_pos h3, if_pos h3, wrap_id (x := 224 + n / 4096) (by omega) (by omega), wrap_id (x := 128 + n / 64 % 64) (by omega) (by omega), wrap_id (x := 128 + n % 64) (by omega) (by omega)]
      congr 3
      · omega
      · congr 1
        · omega
        · congr 1; omega
    rw [if_neg h3, if_neg h3, wrap_id (x := 240 + n / 262144) (by omega) (by omega), wrap_id (x := 128 + n / 4096 % 64) (by omega) (by omega), wrap_id (x := 128 + n / 64 % 64) (by omega) (by omega), wrap_id (x := 128 + n % 64) (by omega) (by omega)]
    congr 3
    · omega
    · congr 1
      · omega
      · congr 1
        · omega
        · congr 1; omega
  · rfl
theorem bytes_any (n : Int) : Ev (fun k => calamusref03_Bytes.f k n) (strOfNums (runeOf n)) := by
  refine ev_from 1 fun k => ?_
  show calamusref03_Bytes.f (k + 1) n = _
  unfold calamusref03_Bytes.f runeOf
  by_cases h1 : n < 0
  · rw [if_pos h1, if_pos (.inl h1), calamusref03_Bytes.j0, if_pos rfl]; rfl
  rw [if_neg h1]
  by_cases h2 : n > 1114111
  · rw [if_pos h2, if_pos (.inr (.inl h2)), calamusref03_Bytes.j0, if_pos rfl]; rfl
  rw [if_neg h2]
  by_cases h3 : n ≥ 55296
  · rw [if_pos h3, bytes_j0 _ _ (by omega)]
    by_cases h4 : n < 57344
    · rw [if_pos (by simpa using h4), if_pos (by omega)]
    · have hc : ¬ (n < 0 ∨ n > 1114111 ∨ (n ≥ 55296 ∧ n < 57344)) := by omega
      rw [if_neg (by simpa using h4), if_neg hc]
  · have hc : ¬ (n < 0 ∨ n > 1114111 ∨ (n ≥ 55296 ∧ n < 57344)) := by omega
    rw [if_neg h3, bytes_j0 _ _ (by omega), if_neg (by simp), if_neg hc]
theorem runeOf_range (n : Int) : ∀ x ∈ runeOf n, 0 ≤ x ∧ x ≤ 255 := by
  unfold runeOf
  intro x hx
  split at hx
  · simp at hx
  split at hx
  · simp at hx; omega
  split at hx
  · simp at hx; omega
  split at hx
  · simp at hx; omega
  · simp at hx; omega

def numOf : List Int → Int
  | [a] => a
  | [a, b] => if a < 192 then -1 else if In b then 64 * (a - 192) + (b - 128) else -1
  | [a, b, c] => if a < 224 then -1 else if In b then if In c then 64 * (64 * (a - 224) + (b - 128)) + (c - 128) else -1 else -1
  | [a, b, c, d] => if a < 240 then -1 else if In b then if In c then if In d then 64 * (64 * (64 * (a - 240) + (b - 128)) + (c - 128)) + (d - 128) else -1 else -1 else -1
  | _ => 0
theorem number_any (s : ByteArray) (h1 : 1 ≤ s.size) (h4 : s.size ≤ 4) : Ev (fun k => calamusref03_number.f k s) (numOf (bytesOf s)) := by
  have hb := bytes_range s
  rcases e : bytesOf s with _ | ⟨a, _ | ⟨b, _ | ⟨c, _ | ⟨d, _ | ⟨x, t⟩⟩⟩⟩⟩
  · have := size_of e; rw [List.length_nil] at this; omega
  · exact number_one e
  · have hs : s.size = 2 := size_of e
    have ha := bytes_at (p := []) e 0 (by simp)
    have hb1 := bytes_at (p := [a]) e 1 (by simp)
    rw [e] at hb
    have ra := hb a (by simp)
    have rb := hb b (by simp)
    refine ev_from 8 fun k => ?_
    show calamusref03_number.f (k + 8) s = _
    unfold calamusref03_number.f
    rw [if_neg (by omega), number_first _ _ _ ha ra (by omega) (by omega)]
    simp only [hs, ↓reduceIte, numOf]
    by_cases g : a < 192
    · rw [if_pos g, if_pos g]
    rw [if_neg g, if_neg g, number_next _ _ _ _ 2 _ rfl hb1 rb (by omega) (by omega) (by omega) (by omega)]
    by_cases g1 : In b
    · rw [if_pos g1, if_pos g1, number_end _ _ _ _ (by omega)]
    · rw [if_neg g1, if_neg g1]
  · have hs : s.size = 3 := size_of e
    have ha := bytes_at (p := []) e 0 (by simp)
    have hb1 := bytes_at (p := [a]) e 1 (by simp)
    have hc1 := bytes_at (p := [a, b]) e 2 (by simp)
    rw [e] at hb
    have ra := hb a (by simp)
    have rb := hb b (by simp)
    have rc := hb c (by simp)
    refine ev_from 8 fun k => ?_
    show calamusref03_number.f (k + 8) s = _
    unfold calamusref03_number.f
    rw [if_neg (by omega), number_first _ _ _ ha ra (by omega) (by omega)]
    simp only [hs, ↓reduceIte, numOf, show ¬ ((3 : Nat) = 2) from by omega]
    by_cases g : a < 224
    · rw [if_pos g, if_pos g]
    rw [if_neg g, if_neg g, number_next _ _ _ _ 2 _ rfl hb1 rb (by omega) (by omega) (by omega) (by omega)]
    by_cases g1 : In b
    · rw [if_pos g1, if_pos g1]
      unfold In at g1
      rw [number_next _ _ _ _ 3 _ rfl hc1 rc (by omega) (by omega) (by omega) (by omega)]
      by_cases g2 : In c
      · rw [if_pos g2, if_pos g2, number_end _ _ _ _ (by omega)]
      · rw [if_neg g2, if_neg g2]
    · rw [if_neg g1, if_neg g1]
  · have hs : s.size = 4 := size_of e
    have ha := bytes_at (p := []) e 0 (by simp)
    have hb1 := bytes_at (p := [a]) e 1 (by simp)
    have hc1 := bytes_at (p := [a, b]) e 2 (by simp)
    have hd1 := bytes_at (p := [a, b, c]) e 3 (by simp)
    rw [e] at hb
    have ra := hb a (by simp)
    have rb := hb b (by simp)
    have rc := hb c (by simp)
    have rd := hb d (by simp)
    refine ev_from 8 fun k => ?_
    show calamusref03_number.f (k + 8) s = _
    unfold calamusref03_number.f
    rw [if_neg (by omega), number_first _ _ _ ha ra (by omega) (by omega)]
    simp only [hs, ↓reduceIte, numOf, show ¬ ((4 : Nat) = 2) from by omega, show ¬ ((4 : Nat) = 3) from by omega]
    by_cases g : a < 240
    · rw [if_pos g, if_pos g]
    rw [if_neg g, if_neg g, number_next _ _ _ _ 2 _ rfl hb1 rb (by omega) (by omega) (by omega) (by omega)]
    by_cases g1 : In b
    · rw [if_pos g1, if_pos g1]
      unfold In at g1
      rw [number_next _ _ _ _ 3 _ rfl hc1 rc (by omega) (by omega) (by omega) (by omega)]
      by_cases g2 : In c
      · rw [if_pos g2, if_pos g2]
        unfold In at g2
        rw [number_next _ _ _ _ 4 _ rfl hd1 rd (by omega) (by omega) (by omega) (by omega)]
        by_cases g3 : In d
        · rw [if_pos g3, if_pos g3, number_end _ _ _ _ (by omega)]
        · rw [if_neg g3, if_neg g3]
      · rw [if_neg g2, if_neg g2]
    · rw [if_neg g1, if_neg g1]
  · have := size_of e; simp only [List.length_cons] at this; omega
theorem rune_iff (l : List Int) (h : ∀ x ∈ l, 0 ≤ x ∧ x ≤ 255) (h1 : 1 ≤ l.length) (h4 : l.length ≤ 4) : runeOf (numOf l) = l ↔ Rn l := by
  have eIn : ∀ b, In b ↔ 128 ≤ b ∧ b ≤ 191 := fun b => Iff.rfl
  have none_ : runeOf (-1) = [] := by unfold runeOf; rw [if_pos (by omega)]
  rcases l with _ | ⟨a, _ | ⟨b, _ | ⟨c, _ | ⟨d, _ | ⟨x, t⟩⟩⟩⟩⟩
  · simp at h1
  · have ra := h a (by simp)
    show runeOf a = [a] ↔ a < 128
    unfold runeOf
    rw [if_neg (by omega)]
    by_cases g : a < 128
    · rw [if_pos g]; simp [g]
    · rw [if_neg g, if_pos (by omega)]; simp [g]
  · have ra := h a (by simp)
    have rb := h b (by simp)
    show runeOf (if a < 192 then -1 else if In b then 64 * (a - 192) + (b - 128) else -1) = [a, b] ↔ 194 ≤ a ∧ a < 224 ∧ B2 a b
    unfold B2
    by_cases g : a < 192
    · rw [if_pos g, none_]; simp; omega
    rw [if_neg g]
    by_cases g1 : In b
    · rw [if_pos g1]
      rw [eIn] at g1
      unfold runeOf
      rw [if_neg (by omega)]
      by_cases g2 : 64 * (a - 192) + (b - 128) < 128
      · rw [if_pos g2]; simp; omega
      rw [if_neg g2]
      by_cases g3 : 64 * (a - 192) + (b - 128) < 2048
      · rw [if_pos g3]; simp; omega
      rw [if_neg g3, if_pos (by omega)]; simp; omega
    · rw [if_neg g1, none_]; rw [eIn] at g1; simp; omega
  · have ra := h a (by simp)
    have rb := h b (by simp)
    have rc := h c (by simp)
    show runeOf (if a < 224 then -1 else if In b then if In c then 64 * (64 * (a - 224) + (b - 128)) + (c - 128) else -1 else -1) = [a, b, c] ↔ 224 ≤ a ∧ a < 240 ∧ B2 a b ∧ In c
    unfold B2
    by_cases g : a < 224
    · rw [if_pos g, none_]; simp; omega
    rw [if_neg g]
    by_cases g1 : In b
    · rw [if_pos g1]
      rw [eIn] at g1
      by_cases g2 : In c
      · rw [if_pos g2]
        rw [eIn] at g2
        rw [eIn]
        generalize hn : 64 * (64 * (a - 224) + (b - 128)) + (c - 128) = n
        unfold runeOf
        by_cases q0 : n < 0 ∨ n > 1114111 ∨ (n ≥ 55296 ∧ n < 57344)
        · rw [if_pos q0]; simp; omega
        rw [if_neg q0]
        by_cases q1 : n < 128
        · rw [if_pos q1]; simp; omega
        rw [if_neg q1]
        by_cases q2 : n < 2048
        · rw [if_pos q2]; simp; omega
        rw [if_neg q2]
        by_cases q3 : n < 65536
        · rw [if_pos q3]; simp; omega
        · rw [if_neg q3]; simp; omega
      · rw [if_neg g2, none_]; simp [g2]
    · rw [if_neg g1, none_]; rw [eIn] at g1; simp; omega
  · have ra := h a (by simp)
    have rb := h b (by simp)
    have rc := h c (by simp)
    have rd := h d (by simp)
    show runeOf (if a < 240 then -1 else if In b then if In c then if In d then 64 * (64 * (64 * (a - 240) + (b - 128)) + (c - 128)) + (d - 128) else -1 else -1 else -1) = [a, b, c, d] ↔ 240 ≤ a ∧ a < 245 ∧ B2 a b ∧ In c ∧ In d
    unfold B2
    by_cases g : a < 240
    · rw [if_pos g, none_]; simp; omega
    rw [if_neg g]
    by_cases g1 : In b
    · rw [if_pos g1]
      rw [eIn] at g1
      by_cases g2 : In c
      · rw [if_pos g2]
        by_cases g4 : In d
        · rw [if_pos g4]
          rw [eIn] at g2 g4
          rw [eIn, eIn]
          generalize hn : 64 * (64 * (64 * (a - 240) + (b - 128)) + (c - 128)) + (d - 128) = n
          unfold runeOf
          by_cases q0 : n < 0 ∨ n > 1114111 ∨ (n ≥ 55296 ∧ n < 57344)
          · rw [if_pos q0]; simp; omega
          rw [if_neg q0]
          by_cases q1 : n < 128
          · rw [if_pos q1]; simp; omega
          rw [if_neg q1]
          by_cases q2 : n < 2048
          · rw [if_pos q2]; simp; omega
          rw [if_neg q2]
          by_cases q3 : n < 65536
          · rw [if_pos q3]; simp; omega
          · rw [if_neg q3]; simp; omega
        · rw [if_neg g4, none_]; simp [g4]
      · rw [if_neg g2, none_]; simp [g2]
    · rw [if_neg g1, none_]; rw [eIn] at g1; simp; omega
  · simp at h4
theorem is_any (s : ByteArray) : Ev (fun k => calamusref03_Is.f k s) (decide (Rn (bytesOf s))) := by
  unfold calamusref03_Is.f
  have no : ¬ (1 ≤ s.size ∧ s.size ≤ 4) → decide (Rn (bytesOf s)) = false := fun h => by
    rw [decide_eq_false_iff_not]
    intro hr
    have := one_len hr
    rw [bytes_len] at this
    exact h this
  by_cases h1 : (s.size : Int) ≥ 1
  · refine ev_pos h1 ?_
    by_cases h4 : (s.size : Int) ≤ 4
    · refine ev_pos h4 ?_
      refine ev_bind (number_any s (by omega) (by omega)) ?_
      refine ev_bind (bytes_any _) ?_
      have e : ((strOfNums (runeOf (numOf (bytesOf s)))).toList == s.toList) = decide (Rn (bytesOf s)) := by
        rw [Bool.eq_iff_iff, beq_iff_eq, decide_eq_true_iff, toList_inj, ← rune_iff _ (bytes_range s) (by rw [bytes_len]; omega) (by rw [bytes_len]; omega)]
        constructor
        · intro h
          rw [← bytes_nums (runeOf_range (numOf (bytesOf s))), h]
        · intro h
          apply bytes_inj
          rw [bytes_nums (runeOf_range _), h]
      rw [e]
      exact Ev.now _
    · refine ev_neg h4 ?_
      rw [no (by omega)]; exact Ev.now _
  · refine ev_neg h1 ?_
    rw [no (by omega)]; exact Ev.now _

theorem bad_val {l t : List Int} {b : Int} (hl : l = [] ∨ Half l) (h1 : ¬ Rn (l ++ [b])) (h2 : ¬ Half (l ++ [b])) : ¬ Val (l ++ [b] ++ t) := by
  rintro ⟨rs, hs, e⟩
  rcases rs with _ | ⟨r, rs⟩
  · simp at e
  rw [List.flatten_cons] at e
  have hr := hs.head
  rcases Nat.lt_trichotomy r.length (l ++ [b]).length with g | g | g
  · rcases hl with rfl | hl
    · have := one_len hr; simp only [List.nil_append, List.length_singleton] at g; omega
    · have : r <+: l := List.prefix_of_prefix_length_le (l₃ := l ++ [b] ++ t) ⟨rs.flatten, e.symm⟩ ⟨[b] ++ t, by simp⟩ (by simp at g; omega)
      obtain ⟨z, hz⟩ := this
      exact half_not_one hl hr hz.symm
  · have := List.append_inj e g.symm
    rw [this.1] at h1; exact h1 hr
  · have : l ++ [b] <+: r := List.prefix_of_prefix_length_le (l₃ := l ++ [b] ++ t) ⟨t, rfl⟩ ⟨rs.flatten, e.symm⟩ (by omega)
    obtain ⟨z, rfl⟩ := this
    refine h2 ?_
    clear e h1 h2
    have hz : z ≠ [] := by rintro rfl; simp at g
    have hy : l ++ [b] ≠ [] := by simp
    generalize l ++ [b] = y at *
    clear hl g
    rcases y with _ | ⟨a1, _ | ⟨a2, _ | ⟨a3, _ | ⟨a4, y⟩⟩⟩⟩ <;> rcases z with _ | ⟨z1, _ | ⟨z2, _ | ⟨z3, _ | ⟨z4, z⟩⟩⟩⟩ <;> simp_all [Rn, Half, B2, In] <;> omega
/-- What a byte more makes of a part of a rune. -/
def Fed (l : List Int) (b : Int) (h r : List Int) (e : Int) : Prop :=
  (l ≠ [] ∧ ¬ Half l ∧ h = [] ∧ r = [] ∧ e = 1) ∨
  ((l = [] ∨ Half l) ∧ ((Rn (l ++ [b]) ∧ h = [] ∧ r = l ++ [b] ∧ e = 0) ∨ (Half (l ++ [b]) ∧ h = l ++ [b] ∧ r = [] ∧ e = 0) ∨
    (¬ Rn (l ++ [b]) ∧ ¬ Half (l ++ [b]) ∧ h = [] ∧ r = [] ∧ e = 5)))
theorem fed_inj {l h r h' r' : List Int} {b e e' : Int} (x : Fed l b h r e) (y : Fed l b h' r' e') : h = h' ∧ r = r' ∧ e = e' := by
  have no : ∀ l, Half l → ¬ Rn l := fun l hl hr => half_not_one hl hr (List.append_nil l).symm
  rcases x with ⟨a1, a2, rfl, rfl, rfl⟩ | ⟨a1, a2⟩ <;> rcases y with ⟨b1, b2, rfl, rfl, rfl⟩ | ⟨b1, b2⟩
  · simp
  · rcases b1 with b1 | b1 <;> contradiction
  · rcases a1 with a1 | a1 <;> contradiction
  · rcases a2 with ⟨a2, rfl, rfl, rfl⟩ | ⟨a2, rfl, rfl, rfl⟩ | ⟨a2, a3, rfl, rfl, rfl⟩ <;> rcases b2 with ⟨b2, rfl, rfl, rfl⟩ | ⟨b2, rfl, rfl, rfl⟩ | ⟨b2, b3, rfl, rfl, rfl⟩ <;> first | exact ⟨rfl, rfl, rfl⟩ | exact absurd a2 (no _ b2) | exact absurd b2 (no _ a2) | contradiction
theorem snoc_size (s : ByteArray) (b : Int) : s.size + (strOfNums [b]).size = s.size + 1 := by rw [strOfNums_size]; rfl
theorem bytes_snoc (s : ByteArray) {b : Int} (hb : 0 ≤ b ∧ b ≤ 255) : bytesOf (s ++ strOfNums [b]) = bytesOf s ++ [b] := by
  rw [bytes_append, bytes_nums (by simpa using hb)]
theorem feed_j (s : ByteArray) (b : Int) (hs : s.size ≤ 140737488351232) (hb : 0 ≤ b ∧ b ≤ 255) (hl : bytesOf s = [] ∨ Half (bytesOf s)) :
    ∃ h r e, Ev (fun k => utf_Feed.j0 k s b false) (h, r, e) ∧ Fed (bytesOf s) b (bytesOf h) (bytesOf r) e := by
  have hsn := bytes_snoc s hb
  have key : ∀ p q, Ev (fun k => if p = (0 : Int) then some ((⟨#[]⟩ : ByteArray), (⟨#[]⟩ : ByteArray), (5 : Int)) else if q = p then some ((⟨#[]⟩ : ByteArray), s ++ strOfNums [b], 0) else some (s ++ strOfNums [b], (⟨#[]⟩ : ByteArray), 0)) (if p = 0 then ((⟨#[]⟩ : ByteArray), (⟨#[]⟩ : ByteArray), (5 : Int)) else if q = p then ((⟨#[]⟩ : ByteArray), s ++ strOfNums [b], 0) else (s ++ strOfNums [b], (⟨#[]⟩ : ByteArray), 0)) := by
    intro p q
    refine ev_const fun k => ?_
    split
    · rfl
    · split <;> rfl
  have all : Ev (fun k => utf_Feed.j0 k s b false) (if (beg (bytesOf s ++ [b])).2 = 0 then ((⟨#[]⟩ : ByteArray), (⟨#[]⟩ : ByteArray), (5 : Int)) else if (beg (bytesOf s ++ [b])).1 = (beg (bytesOf s ++ [b])).2 then ((⟨#[]⟩ : ByteArray), s ++ strOfNums [b], 0) else (s ++ strOfNums [b], (⟨#[]⟩ : ByteArray), 0)) := by
    refine Ev.step (f := fun k => (utf_begins.f k (s ++ strOfNums [b])).bind fun bt112 => (if bt112.2 = 0 then (some ((⟨#[]⟩ : ByteArray), (⟨#[]⟩ : ByteArray), (5 : Int))) else (if bt112.1 = bt112.2 then (some ((⟨#[]⟩ : ByteArray), s ++ strOfNums [b], 0)) else (some (s ++ strOfNums [b], (⟨#[]⟩ : ByteArray), 0))))) (fun k => ?_) ?_
    · rw [utf_Feed.j0, if_neg (by simp)]
      simp only [Option.bind_some]
      rw [if_pos (by rw [snoc_size]; omega)]
    · refine ev_bind (begins_any _) ?_
      rw [hsn]
      exact key _ _
  rcases beg_cases (bytesOf s ++ [b]) with e | ⟨r, t, hr, e⟩ | hh | ⟨_, e⟩
  · simp at e
  · have ht : t = [] := by
      rcases List.eq_nil_or_concat t with rfl | ⟨t', x, rfl⟩
      · rfl
      · exfalso
        rw [List.concat_eq_append, ← List.append_assoc] at e
        have := (List.append_inj' e rfl).1
        rcases hl with hl | hl
        · rw [hl] at this; simp at this; exact one_ne hr this.1
        · exact half_not_one hl hr this
    subst ht
    rw [List.append_nil] at e
    have hbg := beg_one hr []
    rw [List.append_nil, ← e] at hbg
    have h14 := one_len hr
    rw [hbg, if_neg (by rw [e]; simp only; omega), if_pos rfl] at all
    refine ⟨_, _, _, all, .inr ⟨hl, .inl ⟨by rw [e]; exact hr, rfl, hsn, rfl⟩⟩⟩
  · have hbg := beg_half hh
    rw [if_neg (by rw [List.length_append] at hbg; omega), if_neg (by omega)] at all
    exact ⟨_, _, _, all, .inr ⟨hl, .inr (.inl ⟨hh, hsn, rfl, rfl⟩)⟩⟩
  · rw [e, if_pos rfl] at all
    refine ⟨_, _, _, all, .inr ⟨hl, .inr (.inr ⟨fun hr => ?_, fun hh => ?_, rfl, rfl, rfl⟩)⟩⟩
    · have hbg := beg_one hr []
      rw [List.append_nil, e] at hbg
      have := one_len hr
      have h2 := congrArg Prod.fst hbg
      simp only at h2; omega
    · have := beg_half hh
      rw [e] at this; simp only at this; omega
theorem feed_any (s : ByteArray) (b : Int) (hs : s.size ≤ 140737488351232) (hb : 0 ≤ b ∧ b ≤ 255) :
    ∃ h r e, Ev (fun k => utf_Feed.f k s b) (h, r, e) ∧ Fed (bytesOf s) b (bytesOf h) (bytesOf r) e := by
  have jt : Ev (fun k => utf_Feed.j0 k s b true) ((⟨#[]⟩ : ByteArray), (⟨#[]⟩ : ByteArray), (1 : Int)) := by
    refine ev_from 1 fun k => ?_
    show utf_Feed.j0 (k + 1) s b true = _
    rw [utf_Feed.j0, if_pos rfl]
  have hlen := bytes_len s
  by_cases h0 : bytesOf s = []
  · obtain ⟨h, r, e, q, f⟩ := feed_j s b hs hb (.inl h0)
    refine ⟨h, r, e, ?_, f⟩
    unfold utf_Feed.f
    exact ev_bind (begins_any s) (ev_pos ((toList_nil s).2 h0) q)
  have hn : ¬ s.toList = ([] : List UInt8) := fun h => h0 ((toList_nil s).1 h)
  rcases beg_cases (bytesOf s) with e | ⟨r, t, hr, e⟩ | hh | ⟨_, e⟩
  · exact absurd e h0
  · have hx : ¬ Half (bytesOf s) := fun hh => half_not_one hh hr e
    refine ⟨_, _, _, ?_, .inl ⟨h0, hx, bytes_empty, bytes_empty, rfl⟩⟩
    unfold utf_Feed.f
    refine ev_bind (begins_any s) (ev_neg hn ?_)
    rw [e, beg_one hr t]
    by_cases g : ((r.length : Int), (r.length : Int)).1 = (s.size : Int)
    · refine ev_pos g ?_
      simpa using jt
    · exact ev_neg g jt
  · obtain ⟨h, r, e, q, f⟩ := feed_j s b hs hb (.inr hh)
    refine ⟨h, r, e, ?_, f⟩
    have hbg := beg_half hh
    unfold utf_Feed.f
    refine ev_bind (begins_any s) (ev_neg hn (ev_pos (by omega) ?_))
    rwa [decide_eq_false (by omega)]
  · have hx : ¬ Half (bytesOf s) := fun hh => by have := beg_half hh; rw [e] at this; simp only at this; omega
    refine ⟨_, _, _, ?_, .inl ⟨h0, hx, bytes_empty, bytes_empty, rfl⟩⟩
    unfold utf_Feed.f
    refine ev_bind (begins_any s) (ev_neg hn (ev_neg ?_ jt))
    rw [e, ← hlen]
    have : (bytesOf s).length ≠ 0 := fun h => h0 (List.eq_nil_of_length_eq_zero h)
    simp only; omega
def fills : List (List Int) := [[128, 128, 128], [191, 191, 191], [160, 128, 128], [144, 128, 128], [159, 128, 128], [143, 128, 128]]
theorem fills_len : ∀ i : Nat, i < 6 → (rd_L2 fills (i : Int)).length = 3 ∧ ∀ x ∈ rd_L2 fills (i : Int), 0 ≤ x ∧ x ≤ 255 := by
  intro i hi
  have h : i = 0 ∨ i = 1 ∨ i = 2 ∨ i = 3 ∨ i = 4 ∨ i = 5 := by omega
  rcases h with rfl | rfl | rfl | rfl | rfl | rfl <;> simp [rd_L2, fills]
theorem fills_get (i : Nat) (hi : i < 6) : fills.drop i = rd_L2 fills (i : Int) :: fills.drop (i + 1) := by
  have h : i = 0 ∨ i = 1 ∨ i = 2 ∨ i = 3 ∨ i = 4 ∨ i = 5 := by omega
  rcases h with rfl | rfl | rfl | rfl | rfl | rfl <;> rfl
theorem fill_loop (s : ByteArray) (n : Nat) (h0 : 1 ≤ s.size) (hs : s.size ≤ 3) (h1 : s.size + 1 ≤ n) (h4 : n ≤ 4) (q : Bool) (k : Ev (fun k => calamusref03_Begins.l0 k s ((n + 1 : Nat) : Int)) q) (d : Nat) :
    ∀ i : Nat, i + d = 6 → Ev (fun k => calamusref03_Begins.l1 k s n fills 6 i) ((fills.drop i).any (fun f => decide (Rn (bytesOf s ++ f.take (n - s.size)))) || q) := by
  induction d with
  | zero =>
    intro i hi
    obtain rfl : i = 6 := by omega
    refine Ev.step (fun k => ?_) k
    rw [calamusref03_Begins.l1, if_neg (by omega), wrap_id (by omega) (by omega)]; rfl
  | succ d ih =>
    intro i hi
    obtain ⟨g1, g2⟩ := fills_len i (by omega)
    rw [fills_get i (by omega), List.any_cons]
    have hw : wrap64 ((n : Int) - (s.size : Int)) = ((n - s.size : Nat) : Int) := by rw [wrap_id (by omega) (by omega)]; omega
    have hbt : bytesOf (s ++ strOfNums ((rd_L2 fills (i : Int)).take (n - s.size))) = bytesOf s ++ (rd_L2 fills (i : Int)).take (n - s.size) := by
      rw [bytes_append, bytes_nums (fun x hx => g2 x (List.mem_of_mem_take hx))]
    refine Ev.step (f := fun k => (calamusref03_Is.f k (s ++ (strOfNums ((rd_L2 fills (i : Int)).take (n - s.size))))).bind fun t160 => (if t160 = true then (some true) else (calamusref03_Begins.l1 k s n fills 6 ((i + 1 : Nat) : Int)))) (fun k => ?_) ?_
    · rw [calamusref03_Begins.l1, if_pos (by omega), if_pos (by omega), if_pos (by simp [fills]; omega), hw, if_pos (by omega), if_pos (by rw [g1]; omega), Int.toNat_natCast, wrap_id (by omega) (by omega)]
      simp only [Option.bind_some]
      rw [if_pos (by rw [strOfNums_size, List.length_take, g1]; omega)]; rfl
    · refine ev_bind (is_any _) ?_
      rw [hbt]
      by_cases g : Rn (bytesOf s ++ (rd_L2 fills (i : Int)).take (n - s.size))
      · rw [decide_eq_true g, Bool.true_or, Bool.true_or]; exact ev_pos (by simp) (Ev.now _)
      · rw [decide_eq_false g, Bool.false_or]
        exact ev_neg (by simp) (ih (i + 1) (by omega))
theorem fill_any (s : ByteArray) (h0 : 1 ≤ s.size) (hs : s.size ≤ 3) (d : Nat) : ∀ n : Nat, n + d = 5 → s.size + 1 ≤ n →
    ∃ q, Ev (fun k => calamusref03_Begins.l0 k s n) q ∧ (q = true ↔ ∃ m f, n ≤ m ∧ m ≤ 4 ∧ f ∈ fills ∧ Rn (bytesOf s ++ f.take (m - s.size))) := by
  induction d with
  | zero =>
    intro n hn h1
    refine ⟨false, ev_from 1 fun k => ?_, by simp; intro m h; omega⟩
    show calamusref03_Begins.l0 (k + 1) s n = _
    rw [calamusref03_Begins.l0, if_neg (by omega)]
  | succ d ih =>
    intro n hn h1
    obtain ⟨q, hq, hiff⟩ := ih (n + 1) (by omega) (by omega)
    have l := fill_loop s n h0 hs h1 (by omega) q hq 6 0 (by omega)
    refine ⟨_, Ev.step (fun k => ?_) l, ?_⟩
    · rw [calamusref03_Begins.l0, if_pos (by omega)]; rfl
    · rw [Bool.or_eq_true, hiff, List.drop_zero, List.any_eq_true]
      constructor
      · rintro (⟨f, hf, hr⟩ | ⟨m, f, a, b, c, d⟩)
        · exact ⟨n, f, Nat.le_refl _, by omega, hf, by simpa using hr⟩
        · exact ⟨m, f, by omega, b, c, d⟩
      · rintro ⟨m, f, a, b, c, d⟩
        rcases Nat.lt_or_ge n m with g | g
        · exact .inr ⟨m, f, g, b, c, d⟩
        · obtain rfl : n = m := by omega
          exact .inl ⟨f, c, by simpa using d⟩
theorem half_fill (l : List Int) (h1 : 1 ≤ l.length) (h3 : l.length ≤ 3) (hr : ¬ Rn l) : (∃ m f, l.length + 1 ≤ m ∧ m ≤ 4 ∧ f ∈ fills ∧ Rn (l ++ f.take (m - l.length))) ↔ Half l := by
  constructor
  · rintro ⟨m, f, a, b, c, d⟩
    have hz : (f.take (m - l.length)) ≠ [] := by
      intro e
      have := congrArg List.length e
      have hf : f.length = 3 := by simp [fills] at c; rcases c with rfl | rfl | rfl | rfl | rfl | rfl <;> rfl
      rw [List.length_take, hf, List.length_nil] at this; omega
    generalize f.take (m - l.length) = z at *
    clear a b c
    rcases l with _ | ⟨a1, _ | ⟨a2, _ | ⟨a3, _ | ⟨a4, y⟩⟩⟩⟩ <;> rcases z with _ | ⟨z1, _ | ⟨z2, _ | ⟨z3, _ | ⟨z4, z⟩⟩⟩⟩ <;> simp_all [Rn, Half, B2, In] <;> omega
  · intro h
    rcases l with _ | ⟨a, _ | ⟨b, _ | ⟨c, _ | ⟨d, l⟩⟩⟩⟩
    · simp at h1
    · obtain ⟨p, q⟩ := h
      by_cases g : a < 224
      · exact ⟨2, [128, 128, 128], by simp, by omega, by simp [fills], by simp [Rn, B2]; omega⟩
      by_cases g2 : a < 240
      · by_cases g3 : a = 224
        · exact ⟨3, [191, 191, 191], by simp, by omega, by simp [fills], by simp [Rn, B2, In]; omega⟩
        · exact ⟨3, [128, 128, 128], by simp, by omega, by simp [fills], by simp [Rn, B2, In]; omega⟩
      · by_cases g3 : a = 240
        · exact ⟨4, [191, 191, 191], by simp, by omega, by simp [fills], by simp [Rn, B2, In]; omega⟩
        · exact ⟨4, [128, 128, 128], by simp, by omega, by simp [fills], by simp [Rn, B2, In]; omega⟩
    · obtain ⟨p, q, r⟩ := h
      unfold B2 at r
      by_cases g2 : a < 240
      · exact ⟨3, [128, 128, 128], by simp, by omega, by simp [fills], by simp [Rn, B2, In]; omega⟩
      · exact ⟨4, [128, 128, 128], by simp, by omega, by simp [fills], by simp [Rn, B2, In]; omega⟩
    · obtain ⟨p, q, r, t⟩ := h
      unfold B2 at r
      unfold In at t
      exact ⟨4, [128, 128, 128], by simp, by omega, by simp [fills], by simp [Rn, B2, In]; omega⟩
    · simp at h3
theorem begins_ref (s : ByteArray) : Ev (fun k => calamusref03_Begins.f k s) (decide (Half (bytesOf s))) := by
  have hl := bytes_len s
  have jt : Ev (fun k => calamusref03_Begins.j0 k s true) false := by
    refine ev_from 1 fun k => ?_
    show calamusref03_Begins.j0 (k + 1) s true = _
    rw [calamusref03_Begins.j0, if_pos rfl]
  unfold calamusref03_Begins.f
  have half_len : ∀ l, Half l → 1 ≤ l.length ∧ l.length ≤ 3 := by
    intro l h
    rcases l with _ | ⟨a1, _ | ⟨a2, _ | ⟨a3, _ | ⟨a4, y⟩⟩⟩⟩ <;> simp_all [Half]
  by_cases h1 : (s.size : Int) < 1
  · rw [decide_eq_false (fun h => by have := half_len _ h; omega)]
    exact ev_pos h1 jt
  refine ev_neg h1 ?_
  by_cases h3 : (s.size : Int) > 3
  · rw [decide_eq_false (fun h => by have := half_len _ h; omega)]
    exact ev_pos h3 jt
  refine ev_neg h3 (ev_bind (is_any s) ?_)
  by_cases hr : Rn (bytesOf s)
  · rw [decide_eq_true hr, decide_eq_false (fun h => half_not_one h hr (List.append_nil _).symm)]
    exact jt
  · rw [decide_eq_false hr]
    obtain ⟨q, hq, hiff⟩ := fill_any s (by omega) (by omega) (4 - s.size) (s.size + 1) (by omega) (Nat.le_refl _)
    have : q = decide (Half (bytesOf s)) := by
      rw [Bool.eq_iff_iff, hiff, decide_eq_true_iff, ← half_fill (bytesOf s) (by omega) (by omega) hr, hl]
    rw [← this]
    refine Ev.step (fun k => ?_) hq
    rw [calamusref03_Begins.j0, if_neg (by simp), wrap_id (by omega) (by omega)]; rfl
theorem rfeed_any (s : ByteArray) (b : Int) (hs : s.size ≤ 140737488351232) (hb : 0 ≤ b ∧ b ≤ 255) :
    ∃ h r e, Ev (fun k => calamusref03_Feed.f k s b) (h, r, e) ∧ Fed (bytesOf s) b (bytesOf h) (bytesOf r) e := by
  have hsn := bytes_snoc s hb
  have jf : (bytesOf s = [] ∨ Half (bytesOf s)) → ∃ h r e, Ev (fun k => calamusref03_Feed.j0 k s b false) (h, r, e) ∧ Fed (bytesOf s) b (bytesOf h) (bytesOf r) e := by
    intro hl
    have go : ∀ q, Ev (fun k => (calamusref03_Is.f k (s ++ (strOfNums [b]))).bind fun t165 => (if t165 = true then (some ((⟨#[]⟩ : ByteArray), s ++ (strOfNums [b]), (0 : Int))) else ((calamusref03_Begins.f k (s ++ (strOfNums [b]))).bind fun t166 => (if t166 = true then (some (s ++ (strOfNums [b]), (⟨#[]⟩ : ByteArray), (0 : Int))) else (some ((⟨#[]⟩ : ByteArray), (⟨#[]⟩ : ByteArray), (5 : Int))))))) q → Ev (fun k => calamusref03_Feed.j0 k s b false) q := by
      intro q hq
      refine Ev.step (fun k => ?_) hq
      rw [calamusref03_Feed.j0, if_neg (by simp)]
      simp only [Option.bind_some]
      rw [if_pos (by rw [snoc_size]; omega)]
    by_cases h1 : Rn (bytesOf s ++ [b])
    · refine ⟨_, _, _, go _ (ev_bind (is_any _) (ev_pos ?_ (Ev.now _))), .inr ⟨hl, .inl ⟨h1, rfl, hsn, rfl⟩⟩⟩
      rw [hsn]; simpa using h1
    by_cases h2 : Half (bytesOf s ++ [b])
    · refine ⟨_, _, _, go _ (ev_bind (is_any _) (ev_neg ?_ (ev_bind (begins_ref _) (ev_pos ?_ (Ev.now _))))), .inr ⟨hl, .inr (.inl ⟨h2, hsn, rfl, rfl⟩)⟩⟩
      · rw [hsn]; simpa using h1
      · rw [hsn]; simpa using h2
    · refine ⟨_, _, _, go _ (ev_bind (is_any _) (ev_neg ?_ (ev_bind (begins_ref _) (ev_neg ?_ (Ev.now _))))), .inr ⟨hl, .inr (.inr ⟨h1, h2, rfl, rfl, rfl⟩)⟩⟩
      · rw [hsn]; simpa using h1
      · rw [hsn]; simpa using h2
  by_cases h0 : bytesOf s = []
  · obtain ⟨h, r, e, q, f⟩ := jf (.inl h0)
    refine ⟨h, r, e, ?_, f⟩
    unfold calamusref03_Feed.f
    exact ev_pos ((toList_nil s).2 h0) q
  have hn : ¬ s.toList = ([] : List UInt8) := fun h => h0 ((toList_nil s).1 h)
  by_cases hh : Half (bytesOf s)
  · obtain ⟨h, r, e, q, f⟩ := jf (.inr hh)
    refine ⟨h, r, e, ?_, f⟩
    unfold calamusref03_Feed.f
    refine ev_neg hn (ev_bind (begins_ref s) ?_)
    rwa [decide_eq_true hh]
  · refine ⟨_, _, _, ?_, .inl ⟨h0, hh, bytes_empty, bytes_empty, rfl⟩⟩
    unfold calamusref03_Feed.f
    refine ev_neg hn (ev_bind (begins_ref s) ?_)
    rw [decide_eq_false hh]
    refine ev_from 1 fun k => ?_
    show calamusref03_Feed.j0 (k + 1) s b (!false) = _
    rw [calamusref03_Feed.j0, if_pos (show (!false) = true from rfl)]
end Go.Proofs.Ytjobaaolohemgaa.UtfFeedsUtf
