/- What the functions of layer 13, the program's and the document's, tell: keys, signs, names.
  Template: Ytealbonfaebikaa the seat's name, KeyBack the law's key; in pieces. -/
import Derived.Test.YtealbonfaebikaaKeyBackUtf
namespace Go.Proofs.Ytealbonfaebikaa.KeyBackKey
open Go.RowKit Go.Proofs.YtealbonfaebikaaW.PrintWords Go.Proofs.YtealbonfaebikaaW.PrintLast Go.Proofs.YtealbonfaebikaaW.PrintMore
open Go.Proofs.Ytealbonfaebikaa.PKeyBack Go.Proofs.Ytealbonfaebikaa.Utf Go.Proofs.Ytealbonfaebikaa.Open Go.Proofs.Ytealbonfaebikaa.KeyBackUtf
set_option linter.unusedVariables false
set_option linter.unusedSimpArgs false

theorem evr {α : Type} {c : Prop} [Decidable c] {a b : Nat → Option α} {r : α} (k : Ev a r) (h : c := by first | rfl | trivial | simp) : Ev (fun n => if c then a n else b n) r := ev_pos h k
theorem lives_ : Ev (fun k => calamuslaw13_lives.f k) true := Ev.of calamuslaw13_lives.mono (k := 40) (by decide +kernel)
def sgnB (s : ByteArray) : Bool := if (s.size : Int) > 1 then true else if bt s 0 ≥ 32 then decide (bt s 0 < 127) else false
/-- Is it a sign? -/
def sgn (s : ByteArray) : Bool := if Rn (bytesOf s) then sgnB s else false
theorem rn_size {s : ByteArray} (h : Rn (bytesOf s)) : 1 ≤ s.size ∧ s.size ≤ 4 := by rw [← bytes_len]; exact one_len h
theorem nm_list (s : ByteArray) (b : UInt8) : s.toList = [b] ↔ s = ⟨#[b]⟩ := by
 have e : (⟨#[b]⟩ : ByteArray).toList = [b] := by rw [ByteArray.toList_eq]
 constructor
 ·intro h; rw [← e] at h; exact (toList_inj _ _).1 h
 ·intro h; rw [h, e]
theorem sign_is (s : ByteArray) (hs : s.size ≤ 140737488351232) : Ev (fun k => key_Sign.f k s) (sgn s) := by
 unfold key_Sign.f
 by_cases hv : Val (bytesOf s)
 ·obtain ⟨rs, h, e⟩ := hv
  refine ev_bind (count_yes hs h e) ?_
  by_cases h1 : rs.length = 1
  ·obtain ⟨r, rfl⟩ := List.length_eq_one_iff.1 h1
   have hr : Rn (bytesOf s) := by rw [e]; simpa using h.head
   have hz := rn_size hr
   refine ev_pos (by simp) ?_
   unfold sgn sgnB
   rw [if_pos hr]
   by_cases h2 : (s.size : Int) > 1
   ·refine ev_pos h2 ?_
    rw [if_pos h2]; exact Ev.now _
   ·refine ev_neg h2 (ev_pos (by omega) ?_)
    rw [if_neg h2]
    by_cases h3 : bt s 0 ≥ 32
    ·refine ev_pos h3 ?_
     rw [if_pos h3]; exact Ev.now _
    ·refine ev_neg h3 ?_
     rw [if_neg h3]; exact Ev.now _
  ·have hr : ¬ Rn (bytesOf s) := by
    intro hr
    have : rs = [bytesOf s] := runes_inj h (All.cons hr All.nil) (by rw [← e]; simp)
    rw [this] at h1
    exact h1 rfl
   unfold sgn
   rw [if_neg hr]
   exact ev_neg (by omega) (Ev.now _)
 ·refine ev_bind (count_no hv) ?_
  have hr : ¬ Rn (bytesOf s) := by
   intro hr
   exact hv ⟨[bytesOf s], All.cons hr All.nil, by simp⟩
  unfold sgn
  rw [if_neg hr]
  exact ev_neg (by decide) (Ev.now _)
/-- A key's name. -/
def nam (s : ByteArray) : ByteArray := (nmV s).getD (if sgn s = true then s else ⟨#[]⟩)
def rgt (s : ByteArray) : Bool := (nmV s).isSome || sgn s
theorem name_is (s : ByteArray) (hs : s.size ≤ 140737488351232) : Ev (fun k => key_Name.f k s) (nam s) := by
 unfold key_Name.f nam
 cases h : nmV s with
 | some x => exact evr (Ev.now _)
 | none =>
  refine ev_neg (by simp) (ev_bind (sign_is s hs) ?_)
  by_cases g : sgn s = true
  ·refine ev_pos g ?_
   rw [Option.getD_none, if_pos g]; exact Ev.now _
  ·refine ev_neg g ?_
   rw [Option.getD_none, if_neg g]; exact Ev.now _
theorem right_is (s : ByteArray) (hs : s.size ≤ 140737488351232) : Ev (fun k => key_Right.f k s) (rgt s) := by
 unfold key_Right.f rgt
 cases h : nmV s with
 | some x => exact evr (Ev.now _)
 | none =>
  refine ev_neg (by simp) (ev_bind (sign_is s hs) ?_)
  rw [Option.isSome_none, Bool.false_or]
  exact Ev.now _
theorem nmT_ne : ∀ p ∈ nmT, bytesOf p.2 ≠ [] := by decide +kernel
theorem nmV_ne {s x : ByteArray} (h : nmV s = some x) : bytesOf x ≠ [] := by
 unfold nmV at h
 obtain ⟨p, hp, rfl⟩ := Option.map_eq_some_iff.1 h
 exact nmT_ne p (List.mem_of_find?_eq_some hp)
theorem nam_nil (s : ByteArray) : ((nam s).toList != ([] : List UInt8)) = rgt s := by
 have key : (nam s).toList = ([] : List UInt8) ↔ rgt s = false := by
  rw [toList_nil]
  unfold nam rgt
  cases h : nmV s with
  | some x => simpa using nmV_ne h
  | none =>
   rw [Option.getD_none, Option.isSome_none, Bool.false_or]
   by_cases g : sgn s = true
   ·rw [if_pos g, g]
    have hr : Rn (bytesOf s) := by unfold sgn at g; by_cases hr : Rn (bytesOf s); exact hr; rw [if_neg hr] at g; exact absurd g (by decide)
    simpa using one_ne hr
   ·rw [if_neg g]
    simp only [Bool.not_eq_true] at g
    rw [g]
    exact ⟨fun _ => rfl, fun _ => rfl⟩
 cases hb : rgt s with
 | false => rw [bne_eq_false_iff_eq]; exact key.2 hb
 | true =>
  rw [bne_iff_ne]
  intro h
  rw [key.1 h] at hb
  exact absurd hb (by decide)
theorem get_is (s : ByteArray) (i : Nat) (x : Int) (h : (bytesOf s)[i]? = some x) : i < s.size ∧ ((s.get! i).toNat : Int) = x := by
 have hi : i < s.size := by rw [← bytes_len]; exact (List.getElem?_eq_some_iff.1 h).1
 refine ⟨hi, ?_⟩
 have e := get_at s i hi
 rw [Nat.add_zero] at e
 have q := bt_at s (i : Int) (by rw [Int.toNat_natCast]; exact hi)
 simp only [Int.toNat_natCast] at q
 rw [e, q, bytes_get, Int.toNat_natCast, List.getD_eq_getElem?_getD, h]; rfl
theorem drop_at {l r post : List Int} {p : Nat} (e : l.drop p = r ++ post) (k : Nat) (hk : k < r.length) : l[p + k]? = some r[k] := by
 have : (l.drop p)[k]? = some r[k] := by rw [e, List.getElem?_append_left hk, List.getElem?_eq_getElem hk]
 rwa [List.getElem?_drop] at this
theorem enc_bytes (n : Nat) (hv : Utf8.valid n = true) : bytesOf (Utf8.encode n) = if n < 128 then [(n : Int)] else if n < 2048 then [192 + (n : Int) / 64, 128 + (n : Int) % 64]
  else if n < 65536 then [224 + (n : Int) / 4096, 128 + (n : Int) / 64 % 64, 128 + (n : Int) % 64] else [240 + (n : Int) / 262144, 128 + (n : Int) / 4096 % 64, 128 + (n : Int) / 64 % 64, 128 + (n : Int) % 64] := by
 have hn : n ≤ 1114111 := by unfold Utf8.valid at hv; simp at hv; omega
 unfold Utf8.encode
 simp only [hv, if_true, Int.toNat_natCast]
 have hu : ∀ m : Nat, m < 256 → ((UInt8.ofNat m).toNat : Int) = (m : Int) := fun m hm => by rw [UInt8.toNat_ofNat']; omega
 have q : ∀ l : List UInt8, bytesOf ⟨l.toArray⟩ = l.map fun b => (b.toNat : Int) := fun l => by simp [bytesOf]
 by_cases h1 : n < 128
 ·rw [if_pos h1, if_pos h1]
  show bytesOf ⟨[UInt8.ofNat n].toArray⟩ = _
  rw [q]
  simp only [List.map_cons, List.map_nil]
  rw [hu n (by omega)]
 rw [if_neg h1, if_neg h1]
 by_cases h2 : n < 2048
 ·rw [if_pos h2, if_pos h2]
  show bytesOf ⟨[UInt8.ofNat (192 + n / 64), UInt8.ofNat (128 + n % 64)].toArray⟩ = _
  rw [q]
  simp only [List.map_cons, List.map_nil]
  rw [hu _ (by omega), hu _ (by omega)]
  simp
 rw [if_neg h2, if_neg h2]
 by_cases h3 : n < 65536
 ·rw [if_pos h3, if_pos h3]
  show bytesOf ⟨[UInt8.ofNat (224 + n / 4096), UInt8.ofNat (128 + n / 64 % 64), UInt8.ofNat (128 + n % 64)].toArray⟩ = _
  rw [q]
  simp only [List.map_cons, List.map_nil]
  rw [hu _ (by omega), hu _ (by omega), hu _ (by omega)]
  simp
 rw [if_neg h3, if_neg h3]
 show bytesOf ⟨[UInt8.ofNat (240 + n / 262144), UInt8.ofNat (128 + n / 4096 % 64), UInt8.ofNat (128 + n / 64 % 64), UInt8.ofNat (128 + n % 64)].toArray⟩ = _
 rw [q]
 simp only [List.map_cons, List.map_nil]
 rw [hu _ (by omega), hu _ (by omega), hu _ (by omega), hu _ (by omega)]
 simp
theorem valid_of (n : Nat) (h : n < 55296 ∨ (57344 ≤ n ∧ n ≤ 1114111)) : Utf8.valid n = true := by
 unfold Utf8.valid
 simp
 omega
theorem list3 {a b c x y z : Int} (h1 : a = x) (h2 : b = y) (h3 : c = z) : [a, b, c] = [x, y, z] := by rw [h1, h2, h3]
theorem list4 {a b c d x y z u : Int} (h1 : a = x) (h2 : b = y) (h3 : c = z) (h4 : d = u) : [a, b, c, d] = [x, y, z, u] := by rw [h1, h2, h3, h4]
/-- At a rune's place the rune is told, and goes back into its bytes. -/
theorem dec_one (s : ByteArray) (p : Nat) (r post : List Int) (h : Rn r) (e : (bytesOf s).drop p = r ++ post) : ∃ c : Nat, Utf8.decode s p = (c, r.length) ∧ bytesOf (Utf8.encode c) = r := by
 have hb := bytes_range s
 have g : ∀ k (hk : k < r.length), p + k < s.size ∧ ((s.get! (p + k)).toNat : Int) = r[k] := fun k hk => get_is s (p + k) _ (drop_at e k hk)
 have hr : ∀ x ∈ r, 0 ≤ x ∧ x ≤ 255 := fun x hx => hb x (by
  have : x ∈ (bytesOf s).drop p := by rw [e]; simp [hx]
  exact List.mem_of_mem_drop this)
 rcases r with _ | ⟨a, _ | ⟨b, _ | ⟨c, _ | ⟨d, _ | ⟨x, t⟩⟩⟩⟩⟩
 ·exact h.elim
 ·have h : a < 128 := h
  obtain ⟨_, g0⟩ := g 0 (by simp)
  have ha := hr a (by simp)
  simp only [List.getElem_cons_zero] at g0
  refine ⟨(s.get! (p + 0)).toNat, ?_, ?_⟩
  ·unfold Utf8.decode
   simp only
   rw [if_pos (by omega)]
   rfl
  ·rw [enc_bytes _ (valid_of _ (by omega)), if_pos (by omega), g0]
 ·have h : 194 ≤ a ∧ a < 224 ∧ B2 a b := h
  obtain ⟨_, g0⟩ := g 0 (by simp)
  obtain ⟨z1, g1⟩ := g 1 (by simp)
  simp only [List.getElem_cons_zero, List.getElem_cons_succ] at g0 g1
  unfold B2 at h
  generalize hn0 : (s.get! (p + 0)).toNat = n0 at g0
  generalize hn1 : (s.get! (p + 1)).toNat = n1 at g1
  refine ⟨(n0 % 32) * 64 + n1 % 64, ?_, ?_⟩
  ·unfold Utf8.decode
   simp only [hn0, hn1]
   rw [if_neg (by omega), if_pos (by simp; omega), if_pos (by omega)]
   rfl
  ·rw [enc_bytes _ (valid_of _ (by omega)), if_neg (by omega), if_pos (by omega)]
   congr 1
   ·omega
   ·congr 1; omega
 ·have h : 224 ≤ a ∧ a < 240 ∧ B2 a b ∧ In c := h
  obtain ⟨_, g0⟩ := g 0 (by simp)
  obtain ⟨z1, g1⟩ := g 1 (by simp)
  obtain ⟨z2, g2⟩ := g 2 (by simp)
  simp only [List.getElem_cons_zero, List.getElem_cons_succ] at g0 g1 g2
  unfold B2 In at h
  generalize hn0 : (s.get! (p + 0)).toNat = n0 at g0
  generalize hn1 : (s.get! (p + 1)).toNat = n1 at g1
  generalize hn2 : (s.get! (p + 2)).toNat = n2 at g2
  have hv := valid_of ((n0 % 16) * 4096 + (n1 % 64) * 64 + n2 % 64) (by omega)
  refine ⟨(n0 % 16) * 4096 + (n1 % 64) * 64 + n2 % 64, ?_, ?_⟩
  ·unfold Utf8.decode
   simp only [hn0, hn1, hn2]
   rw [if_neg (by omega), if_neg (by simp; omega), if_pos (by simp; omega), if_pos (by rw [hv]; simp; omega)]
   rfl
  ·rw [enc_bytes _ hv, if_neg (by omega), if_neg (by omega), if_pos (by omega)]
   refine list3 ?_ ?_ ?_ <;> omega
 ·have h : 240 ≤ a ∧ a < 245 ∧ B2 a b ∧ In c ∧ In d := h
  obtain ⟨_, g0⟩ := g 0 (by simp)
  obtain ⟨z1, g1⟩ := g 1 (by simp)
  obtain ⟨z2, g2⟩ := g 2 (by simp)
  obtain ⟨z3, g3⟩ := g 3 (by simp)
  simp only [List.getElem_cons_zero, List.getElem_cons_succ] at g0 g1 g2 g3
  unfold B2 In at h
  generalize hn0 : (s.get! (p + 0)).toNat = n0 at g0
  generalize hn1 : (s.get! (p + 1)).toNat = n1 at g1
  generalize hn2 : (s.get! (p + 2)).toNat = n2 at g2
  generalize hn3 : (s.get! (p + 3)).toNat = n3 at g3
  have hv := valid_of ((n0 % 8) * 262144 + (n1 % 64) * 4096 + (n2 % 64) * 64 + n3 % 64) (by omega)
  refine ⟨(n0 % 8) * 262144 + (n1 % 64) * 4096 + (n2 % 64) * 64 + n3 % 64, ?_, ?_⟩
  ·unfold Utf8.decode
   simp only [hn0, hn1, hn2, hn3]
   rw [if_neg (by omega), if_neg (by simp; omega), if_neg (by simp; omega), if_pos (by simp; omega), if_pos (by rw [hv]; simp; omega)]
   rfl
  ·rw [enc_bytes _ hv, if_neg (by omega), if_neg (by omega), if_neg (by omega)]
   refine list4 ?_ ?_ ?_ ?_ <;> omega
 ·exact h.elim
theorem str_of {t : ByteArray} {r : List Int} (h : bytesOf t = r) : t = strOfNums r := bytes_inj (by rw [bytes_nums (fun x hx => bytes_range t x (by rw [h]; exact hx))]; exact h)
theorem str_bytes {r : List Int} (h : ∀ x ∈ r, 0 ≤ x ∧ x ≤ 255) : bytesOf (strOfNums r) = r := bytes_nums h
/-- Are all of them keys? -/
def allR (rs : List (List Int)) : Bool := rs.all fun r => rgt (strOfNums r)
theorem split_l (s : ByteArray) (hs : s.size ≤ 1000000) : ∀ (rs : List (List Int)) (p : Nat) (acc : List ByteArray), All rs → (bytesOf s).drop p = rs.flatten → p ≤ s.size → acc.length ≤ p →
  Ev (fun k => key_Split.l0 k s p acc) (if allR rs = true then (acc ++ rs.map strOfNums, 0) else ([], 9))
 | [], p, acc, _, e, hp, ha => by
  have hl : s.size ≤ p := by
   have := congrArg List.length e
   rw [List.length_drop, bytes_len] at this
   simp at this
   omega
  refine ev_off 1 ?_
  simp only [key_Split.l0]
  refine ev_neg (by omega) ?_
  have e0 : allR [] = true := rfl
  rw [if_pos e0]
  simp only [List.map_nil, List.append_nil]
  exact Ev.now _
 | r :: rs, p, acc, h, e, hp, ha => by
  have h1 := one_len h.head
  have hl : p + r.length ≤ s.size := by
   have := congrArg List.length e
   rw [List.length_drop, bytes_len, List.flatten_cons, List.length_append] at this
   omega
  have e' : (bytesOf s).drop (p + r.length) = rs.flatten := by
   rw [← List.drop_drop, e, List.flatten_cons, List.drop_left]
  obtain ⟨c, hd, he⟩ := dec_one s p r rs.flatten h.head (by rw [e]; rfl)
  have hc := str_of he
  refine ev_off 1 ?_
  simp only [key_Split.l0, hd]
  rw [hc]
  refine ev_pos (by omega) (ev_bind (right_is _ (by rw [← hc, ← bytes_len, he]; omega)) ?_)
  unfold allR
  rw [List.all_cons]
  by_cases g : rgt (strOfNums r) = true
  ·rw [g, Bool.true_and]
   have q := split_l s hs rs (p + r.length) (acc ++ [strOfNums r]) h.tail e' hl (by simp; omega)
   unfold allR at q
   rw [List.append_assoc] at q
   exact evr (ev_pos (by omega) q)
  ·simp only [Bool.not_eq_true] at g
   rw [g, Bool.false_and]
   exact ev_neg (by decide) (Ev.now _)
theorem split_yes {s : ByteArray} (hs : s.size ≤ 1000000) {rs : List (List Int)} (h : All rs) (e : bytesOf s = rs.flatten) : Ev (fun k => key_Split.f k s) (if allR rs = true then (rs.map strOfNums, 0) else ([], 9)) := by
 unfold key_Split.f
 refine ev_bind (valid_yes ⟨rs, h, e⟩) (evr ?_)
 have q := split_l s hs rs 0 [] h (by rw [List.drop_zero, e]) (by omega) (by simp)
 rw [List.nil_append] at q
 exact q
theorem split_no {s : ByteArray} (h : ¬ Val (bytesOf s)) : Ev (fun k => key_Split.f k s) ([], 5) := by
 unfold key_Split.f
 exact ev_bind (valid_no h) (ev_neg (by decide) (Ev.now _))
/-- Texts as one. -/
def glueB (l : List ByteArray) : ByteArray := ⟨(l.map (·.data.toList)).flatten.toArray⟩
theorem join_flat (xs : List (List UInt8)) : Lib.join xs [] = xs.flatten := by
 cases xs with
 | nil => rfl
 | cons x r =>
  rw [Lib.join_cons]
  unfold Lib.joinTail
  simp
theorem data_bytes (s : ByteArray) : bytesOf s = s.data.toList.map (fun b => (b.toNat : Int)) := rfl
theorem bytes_glue (l : List ByteArray) : bytesOf (glueB l) = l.flatMap bytesOf := by
 rw [data_bytes]
 show List.map _ (List.flatten _).toArray.toList = _
 simp only [List.map_flatten, List.map_map, List.flatMap]
 congr 1
theorem glue_size (l : List ByteArray) : (glueB l).size = (l.map ByteArray.size).sum := by
 rw [← bytes_len, bytes_glue, List.length_flatMap]
 congr 1
 apply List.map_congr_left
 intro s _
 exact bytes_len s
theorem nmT_size : ∀ p ∈ nmT, p.2.size ≤ 7 := by decide +kernel
theorem nam_size (s : ByteArray) (hs : s.size ≤ 4) : (nam s).size ≤ 7 := by
 unfold nam
 cases h : nmV s with
 | some x =>
  unfold nmV at h
  obtain ⟨p, hp, rfl⟩ := Option.map_eq_some_iff.1 h
  exact nmT_size p (List.mem_of_find?_eq_some hp)
 | none =>
  rw [Option.getD_none]
  split
  ·omega
  ·show (0 : Nat) ≤ 7; omega
theorem rdO {l : List ByteArray} {i : Nat} (h : i < l.length) : rdOf ByteArray.empty l (i : Int) = l[i] := by
 unfold rdOf
 rw [Int.toNat_natCast, List.getD_eq_getElem?_getD, List.getElem?_eq_getElem h]; rfl
theorem join_is (l : List ByteArray) (hl : l.length ≤ 1000000) (hs : (glueB l).size ≤ 140737488355328) : strings_Join.f l ⟨#[]⟩ = some (glueB l) := by
 unfold strings_Join.f
 have e : (⟨#[]⟩ : ByteArray).data.toList = ([] : List UInt8) := rfl
 rw [e, join_flat]
 have hz : ((l.map (·.data.toList)).flatten).length ≤ 140737488355328 := by
  have : (glueB l).size = ((l.map (·.data.toList)).flatten).length := by unfold glueB; simp [ByteArray.size]
  omega
 rw [if_pos ⟨hl, hz⟩]
 rfl
theorem sum_le (l : List ByteArray) (h : ∀ t ∈ l, t.size ≤ 7) : (l.map ByteArray.size).sum ≤ 7 * l.length := by
 induction l with
 | nil => simp
 | cons x l ih =>
  have := ih (fun t ht => h t (by simp [ht]))
  have := h x (by simp)
  simp
  omega
theorem text_l (L : List ByteArray) (hL : L.length ≤ 1000000) (h4 : ∀ t ∈ L, t.size ≤ 4) (d : Nat) : ∀ i : Nat, i + d = L.length →
  Ev (fun k => key_Text.l0 k ((L.take i).map nam ++ L.drop i) (L.length : Int) i) (glueB (L.map nam), 0) := by
 induction d with
 | zero =>
  intro i hi
  refine ev_off 1 ?_
  simp only [key_Text.l0]
  rw [List.take_of_length_le (by omega), List.drop_of_length_le (by omega), List.append_nil]
  refine ev_neg (by omega) ?_
  rw [join_is _ (by rw [List.length_map]; exact hL) (by
   rw [glue_size]
   have := sum_le (L.map nam) (fun t ht => by obtain ⟨u, hu, rfl⟩ := List.mem_map.1 ht; exact nam_size u (h4 u hu))
   rw [List.length_map] at this
   omega)]
  exact Ev.now _
 | succ d ih =>
  intro i hi
  have hlt : i < L.length := by omega
  refine ev_off 1 ?_
  have hlen : ((L.take i).map nam ++ L.drop i).length = L.length := by simp; omega
  have hget : ((L.take i).map nam ++ L.drop i)[i]'(by omega) = L[i] := by
   rw [List.getElem_append_right (by simp; omega)]
   simp [Nat.min_eq_left (Nat.le_of_lt hlt)]
  have hset : ((L.take i).map nam ++ L.drop i).set i (nam L[i]) = (L.take (i + 1)).map nam ++ L.drop (i + 1) := by
   rw [List.set_append_right _ _ (by simp; omega), List.length_map, List.length_take, Nat.min_eq_left (Nat.le_of_lt hlt), Nat.sub_self, List.drop_eq_getElem_cons hlt, List.set_cons_zero, List.take_succ_eq_append_getElem hlt, List.map_append, List.append_assoc]
   rfl
  simp only [key_Text.l0]
  rw [rdO (by omega), hget, Int.toNat_natCast]
  refine ev_pos (by omega) (ev_pos (by omega) (ev_pos (by omega) (ev_bind (name_is _ (by have := h4 _ (List.getElem_mem hlt); omega)) ?_)))
  rw [hset, wrap_id (x := (i : Int) + 1) (by omega) (by omega)]
  exact ih (i + 1) (by omega)
/-- The text of keys. -/
def txt (rs : List (List Int)) : ByteArray := glueB (rs.map fun r => nam (strOfNums r))
theorem runes_four {s : ByteArray} {rs : List (List Int)} (h : All rs) (e : bytesOf s = rs.flatten) : ∀ r ∈ rs, bytesOf (strOfNums r) = r ∧ (strOfNums r).size ≤ 4 := by
 intro r hr
 have hb : bytesOf (strOfNums r) = r := str_bytes (fun x hx => bytes_range s x (by rw [e]; exact List.mem_flatten.2 ⟨r, hr, hx⟩))
 exact ⟨hb, by rw [← bytes_len, hb]; exact (one_len (h r hr)).2⟩
theorem runes_len {s : ByteArray} {rs : List (List Int)} (h : All rs) (e : bytesOf s = rs.flatten) : rs.length ≤ s.size := by
 rw [← bytes_len, e]
 exact flat_len rs h
theorem text_yes {s : ByteArray} (hs : s.size ≤ 1000000) {rs : List (List Int)} (h : All rs) (e : bytesOf s = rs.flatten) : Ev (fun k => key_Text.f k s) (if allR rs = true then (txt rs, 0) else (⟨#[]⟩, 9)) := by
 unfold key_Text.f
 refine ev_bind (split_yes hs h e) ?_
 have hl := runes_len h e
 by_cases g : allR rs = true
 ·simp only [if_pos g]
  refine evr ?_
  have q := text_l (rs.map strOfNums) (by rw [List.length_map]; omega) (fun t ht => by obtain ⟨r, hr, rfl⟩ := List.mem_map.1 ht; exact (runes_four h e r hr).2) rs.length 0 (by simp)
  simp only [List.take_zero, List.map_nil, List.nil_append, List.drop_zero, List.map_map] at q
  exact q
 ·simp only [if_neg g]
  exact ev_neg (by decide) (Ev.now _)
theorem text_no {s : ByteArray} (h : ¬ Val (bytesOf s)) : Ev (fun k => key_Text.f k s) (⟨#[]⟩, 5) := by
 unfold key_Text.f
 exact ev_bind (split_no h) (ev_neg (by decide) (Ev.now _))
theorem nmT_low : ∀ p ∈ nmT, ∀ x ∈ bytesOf p.2, 0 ≤ x ∧ x < 128 := by decide +kernel
theorem ascii_runes : ∀ (xs : List Int) (rs : List (List Int)) (u : List Int), (∀ x ∈ xs, x < 128) → All rs → rs.flatten = xs ++ u → ∃ rs2, rs = xs.map (fun x => [x]) ++ rs2 ∧ rs2.flatten = u
 | [], rs, u, _, _, e => ⟨rs, rfl, e⟩
 | x :: xs, rs, u, hx, h, e => by
  cases rs with
  | nil => simp at e
  | cons r rs' =>
   have hr : Rn [x] := hx x (by simp)
   obtain ⟨rfl, e'⟩ := one_inj hr h.head (show [x] ++ (xs ++ u) = r ++ rs'.flatten from by simpa using e.symm)
   obtain ⟨rs2, rfl, e2⟩ := ascii_runes xs rs' u (fun y hy => hx y (by simp [hy])) h.tail e'.symm
   exact ⟨rs2, rfl, e2⟩
theorem u8_list {l m : List UInt8} (h : l.map (fun b => (b.toNat : Int)) = m.map (fun b => (b.toNat : Int))) : l = m :=
 List.map_inj_right (f := fun b : UInt8 => (b.toNat : Int)) (fun a b e => UInt8.toNat_inj.1 (by omega)) |>.1 h
theorem pre_bytes (s p : ByteArray) : Lib.hasPrefix s.data.toList p.data.toList = true ↔ ∃ u, bytesOf s = bytesOf p ++ u := by
 constructor
 ·intro h
  obtain ⟨t, ht⟩ := List.isPrefixOf_iff_prefix.1 h
  exact ⟨t.map (fun b => (b.toNat : Int)), by rw [data_bytes, data_bytes, ← ht, List.map_append]⟩
 ·rintro ⟨u, e⟩
  refine List.isPrefixOf_iff_prefix.2 ?_
  have hl : (bytesOf s).take p.data.toList.length = bytesOf p := by
   rw [e, List.take_append_of_le_length (by rw [bytes_len]; exact Nat.le_of_eq rfl), List.take_of_length_le (by rw [bytes_len]; exact Nat.le_of_eq rfl)]
  rw [data_bytes, data_bytes, ← List.map_take] at hl
  have := u8_list hl
  rw [← this]
  exact List.take_prefix _ _
theorem trim_bytes (s p : ByteArray) (u : List Int) (e : bytesOf s = bytesOf p ++ u) : bytesOf (⟨(Lib.trimPrefix s.data.toList p.data.toList).toArray⟩ : ByteArray) = u := by
 unfold Lib.trimPrefix
 rw [if_pos ((pre_bytes s p).2 ⟨u, e⟩), data_bytes]
 show List.map _ (List.drop _ _).toArray.toList = _
 rw [List.map_drop, ← data_bytes, e]
 exact List.drop_left' (by rw [bytes_len]; rfl)
theorem kn_third : ∀ p ∈ nmT, nmT.find? (fun q => (bytesOf q.2).take 3 == (bytesOf p.2).take 3) = some p ∧ 3 ≤ (bytesOf p.2).length ∧ nmV p.1 = some p.2 ∧ (∃ c, 0 ≤ c ∧ c < 128 ∧ bytesOf p.1 = [c]) := by
 intro p hp
 simp only [nmT, List.mem_cons, List.not_mem_nil, or_false] at hp
 rcases hp with rfl | rfl | rfl | rfl | rfl | rfl | rfl | rfl <;> exact ⟨by decide +kernel, by decide +kernel, by decide +kernel, _, by decide, by decide, rfl⟩
theorem kn_found {s : ByteArray} {p : ByteArray × ByteArray} (hp : p ∈ nmT) {u : List Int} (e : bytesOf s = bytesOf p.2 ++ u) : nmT.find? (fun p => Lib.hasPrefix s.data.toList p.2.data.toList) = some p := by
 have h := (pre_bytes s p.2).2 ⟨u, e⟩
 cases hf : nmT.find? (fun p => Lib.hasPrefix s.data.toList p.2.data.toList) with
 | none => exact absurd h (by have := List.find?_eq_none.1 hf p hp; simpa using this)
 | some q =>
  have h2 := List.find?_some hf
  obtain ⟨v, e2⟩ := (pre_bytes s q.2).1 (by simpa using h2)
  have hq := List.mem_of_find?_eq_some hf
  obtain ⟨a1, a2, _⟩ := kn_third p hp
  obtain ⟨b1, b2, _⟩ := kn_third q hq
  have e3 : (bytesOf p.2).take 3 = (bytesOf q.2).take 3 := by
   rw [← List.take_append_of_le_length (l₂ := u) a2, ← List.take_append_of_le_length (l₂ := v) b2, ← e, ← e2]
  rw [e3] at a1
  rw [b1] at a1
  exact a1.symm ▸ rfl
/-- What the program finds at a text's beginning. -/
theorem named_yes {t : ByteArray} {p : ByteArray × ByteArray} (hp : p ∈ nmT) {u : List Int} (e : bytesOf t = bytesOf p.2 ++ u) : Ev (fun k => key_named.f k t) (p.1, strOfNums u) := by
 have h : ∀ k, key_named.f k t = some (p.1, strOfNums u) := fun k => by
  unfold key_named.f
  rw [kn_found hp e]
  simp only
  rw [str_of (trim_bytes t p.2 u e)]
 exact ev_const h
theorem sixty {r : List Int} (h : Rn r) (h0 : r.head? = some 60) : r = [60] := by
 rcases r with _ | ⟨a, _ | ⟨b, _ | ⟨c, _ | ⟨d, _ | ⟨x, y⟩⟩⟩⟩⟩ <;> simp only [List.head?_cons, List.head?_nil, Option.some.injEq, reduceCtorEq] at h0 <;> subst_vars <;> simp [Rn] at h ⊢
theorem named_no {t : ByteArray} (ht : t.size ≤ 1000000) {r : List Int} {rs : List (List Int)} (h : All (r :: rs)) (e : bytesOf t = (r :: rs).flatten) (hn : ∀ p ∈ nmT, ¬ ∃ u, bytesOf t = bytesOf p.2 ++ u) :
  Ev (fun k => key_named.f k t) (if r = [60] then (⟨#[]⟩, ⟨#[]⟩) else if sgn (strOfNums r) = true then (strOfNums r, strOfNums rs.flatten) else (⟨#[]⟩, ⟨#[]⟩)) := by
 have hf : nmT.find? (fun p => Lib.hasPrefix t.data.toList p.2.data.toList) = none := by
  rw [List.find?_eq_none]
  intro p hp hx
  exact hn p hp ((pre_bytes t p.2).1 (by simpa using hx))
 have hk : ∀ k, key_named.f k t = key_named.t k t := fun k => by unfold key_named.f; rw [hf]
 simp only [hk]
 unfold key_named.t
 have h1 := one_len h.head
 have hl : r.length + rs.flatten.length = t.size := by rw [← bytes_len, e]; simp
 have e' : bytesOf t = r ++ rs.flatten := by rw [e]; rfl
 refine ev_bind (next_yes (by omega) h e (xs := []) (ys := rs) (r := r) (at_ := 0) ⟨rfl, rfl⟩) (ev_neg (by omega) (ev_pos (by omega) ?_))
 have hb : bt t 0 = 60 ↔ r = [60] := by
  rw [bytes_get, e']
  have : ∃ a y, r = a :: y := by cases r with | nil => exact absurd rfl (one_ne h.head) | cons a y => exact ⟨a, y, rfl⟩
  obtain ⟨a, y, rfl⟩ := this
  simp only [Int.toNat_zero, List.cons_append, List.getD_cons_zero]
  constructor
  ·rintro rfl; exact sixty h.head rfl
  ·intro q; cases q; rfl
 by_cases h60 : r = [60]
 ·rw [if_pos h60]; exact ev_pos (hb.2 h60) (Ev.now _)
 ·rw [if_neg h60]
  refine ev_neg (fun q => h60 (hb.1 q)) (ev_pos (by omega) ?_)
  have hz : (0 + (r.length : Int)).toNat = r.length := by omega
  have x1 : t.extract 0 r.length = strOfNums r := str_of (by rw [bytes_extract, e']; simp)
  have x2 : t.extract r.length t.size = strOfNums rs.flatten := str_of (by rw [bytes_drop, e']; simp)
  simp only [hz, x1, x2]
  have hs : (strOfNums r).size ≤ 4 := by rw [← x1, ← bytes_len, bytes_extract, List.length_take]; omega
  refine ev_bind (sign_is _ (by omega)) ?_
  by_cases g : sgn (strOfNums r) = true
  ·simp only [if_pos g]; exact Ev.now _
  ·simp only [if_neg g]; exact Ev.now _
theorem key_of {s x : ByteArray} (h : nmV s = some x) : (s, x) ∈ nmT := by
 unfold nmV at h
 obtain ⟨p, hp, rfl⟩ := Option.map_eq_some_iff.1 h
 have h1 := List.find?_some hp
 have h2 := List.mem_of_find?_eq_some hp
 rw [(MapKept.bytes_beq s p.1).1 h1]
 exact h2
theorem ctl : ∀ p ∈ nmT, bytesOf p.1 = [60] ∨ sgn p.1 = false := by decide +kernel
theorem sgn_rn {s : ByteArray} (g : sgn s = true) : Rn (bytesOf s) := by
 unfold sgn at g
 by_cases hr : Rn (bytesOf s)
 ·exact hr
 ·rw [if_neg hr] at g; exact absurd g (by decide)
/-- A sign that is not '<' has no other name. -/
theorem plain_key {s : ByteArray} (h : sgn s = true) (h60 : bytesOf s ≠ [60]) : nmV s = none := by
 cases hv : nmV s with
 | none => rfl
 | some x =>
  rcases ctl _ (key_of hv) with h1 | h1
  ·exact absurd h1 h60
  ·rw [h1] at h; exact absurd h (by decide)
theorem app_nil {b : ByteArray} : b ++ glueB [] = b := bytes_inj (by rw [bytes_append, bytes_glue]; simp)
theorem glue_cons (x : ByteArray) (l : List ByteArray) : glueB (x :: l) = x ++ glueB l := bytes_inj (by rw [bytes_append, bytes_glue, bytes_glue]; rfl)
theorem app_assoc (a b c : ByteArray) : a ++ b ++ c = a ++ (b ++ c) := bytes_inj (by simp only [bytes_append, List.append_assoc])
theorem txt_cons (r : List Int) (ks : List (List Int)) : txt (r :: ks) = nam (strOfNums r) ++ txt ks := by unfold txt; rw [List.map_cons, glue_cons]
theorem nil_of {t : ByteArray} (h : bytesOf t = []) : t = ⟨#[]⟩ := bytes_inj h
/-- What the program reads of a text. -/
theorem parse_l (n : Nat) : ∀ (rs : List (List Int)) (t b : ByteArray), rs.length ≤ n → All rs → bytesOf t = rs.flatten → t.size + b.size ≤ 1000000 →
  ∃ (ks : List (List Int)) (e : Int), Ev (fun k => key_Parse.l0 k t b) (if e = 0 then b ++ glueB (ks.map strOfNums) else ⟨#[]⟩, e) ∧ (e = 0 ∨ e = 3) ∧ (e = 0 → All ks ∧ allR ks = true ∧ txt ks = t ∧ ks.flatten.length ≤ t.size ∧ ∀ r ∈ ks, bytesOf (strOfNums r) = r) := by
 induction n with
 | zero =>
  intro rs t b hn h e hz
  obtain rfl : rs = [] := List.length_eq_zero_iff.1 (by omega)
  refine ⟨[], 0, ?_, Or.inl rfl, fun _ => ⟨All.nil, rfl, (nil_of e).symm, by simp, fun r hr => by simp at hr⟩⟩
  refine ev_off 1 ?_
  simp only [key_Parse.l0]
  rw [if_pos trivial, List.map_nil, app_nil]
  exact ev_pos ((toList_nil t).2 e) (Ev.now _)
 | succ n ih =>
  intro rs t b hn h e hz
  rcases rs with _ | ⟨r, rs⟩
  ·refine ⟨[], 0, ?_, Or.inl rfl, fun _ => ⟨All.nil, rfl, (nil_of e).symm, by simp, fun r hr => by simp at hr⟩⟩
   refine ev_off 1 ?_
   simp only [key_Parse.l0]
   rw [if_pos trivial, List.map_nil, app_nil]
   exact ev_pos ((toList_nil t).2 e) (Ev.now _)
  have hne : ¬ t.toList = ([] : List UInt8) := fun q => by
   rw [toList_nil, e] at q
   exact one_ne h.head (by simp at q; exact q.1)
  have h1 := one_len h.head
  have hl : r.length + rs.flatten.length = t.size := by rw [← bytes_len, e]; simp
  have stop : ∀ {x y : ByteArray}, Ev (fun k => key_named.f k t) (x, y) → x = ⟨#[]⟩ → ∃ (ks : List (List Int)) (e : Int), Ev (fun k => key_Parse.l0 k t b) (if e = 0 then b ++ glueB (ks.map strOfNums) else ⟨#[]⟩, e) ∧ (e = 0 ∨ e = 3) ∧ (e = 0 → All ks ∧ allR ks = true ∧ txt ks = t ∧ ks.flatten.length ≤ t.size ∧ ∀ r ∈ ks, bytesOf (strOfNums r) = r) := by
   intro x y q hx
   refine ⟨[], 3, ?_, Or.inr rfl, fun h => absurd h (by decide)⟩
   refine ev_off 1 ?_
   simp only [key_Parse.l0]
   rw [if_neg (by decide)]
   exact ev_neg hne (ev_bind q (ev_pos (by rw [hx]; exact (toList_nil _).2 rfl) (Ev.now _)))
  have go : ∀ {q : List Int} {rs' : List (List Int)}, Ev (fun k => key_named.f k t) (strOfNums q, strOfNums rs'.flatten) → Rn q → rgt (strOfNums q) = true → bytesOf (strOfNums q) = q → bytesOf (strOfNums rs'.flatten) = rs'.flatten → All rs' → rs'.length ≤ n → bytesOf t = bytesOf (nam (strOfNums q)) ++ rs'.flatten → q.length ≤ (nam (strOfNums q)).size →
    ∃ (ks : List (List Int)) (e : Int), Ev (fun k => key_Parse.l0 k t b) (if e = 0 then b ++ glueB (ks.map strOfNums) else ⟨#[]⟩, e) ∧ (e = 0 ∨ e = 3) ∧ (e = 0 → All ks ∧ allR ks = true ∧ txt ks = t ∧ ks.flatten.length ≤ t.size ∧ ∀ r ∈ ks, bytesOf (strOfNums r) = r) := by
   intro q rs' hq hr hg hbq hbr hA hln hbt hql
   have hz1 : (strOfNums q).size = q.length := by rw [← bytes_len, hbq]
   have hz2 : (strOfNums rs'.flatten).size = rs'.flatten.length := by rw [← bytes_len, hbr]
   have hz3 : t.size = (nam (strOfNums q)).size + rs'.flatten.length := by rw [← bytes_len, hbt, List.length_append, bytes_len]
   obtain ⟨ks, e2, p1, p2, p3⟩ := ih rs' (strOfNums rs'.flatten) (b ++ strOfNums q) hln hA hbr (by rw [ByteArray.size_append]; omega)
   refine ⟨q :: ks, e2, ?_, p2, fun h0 => ?_⟩
   ·refine ev_off 1 ?_
    simp only [key_Parse.l0]
    have hqn : ¬ (strOfNums q).toList = ([] : List UInt8) := by rw [toList_nil, hbq]; exact one_ne hr
    refine ev_neg hne (ev_bind hq (ev_neg hqn (ev_pos (by show b.size + (strOfNums q).size ≤ _; omega) ?_)))
    rw [List.map_cons, glue_cons, ← app_assoc]
    exact p1
   ·obtain ⟨a1, a2, a3, a4, a5⟩ := p3 h0
    refine ⟨All.cons hr a1, by unfold allR at *; rw [List.all_cons, hg, a2]; rfl, ?_, ?_⟩
    ·rw [txt_cons, a3]
     exact bytes_inj (by rw [bytes_append, hbr, hbt])
    ·refine ⟨by rw [List.flatten_cons, List.length_append]; omega, fun r hr => ?_⟩
     rcases List.mem_cons.1 hr with rfl | hr
     ·exact hbq
     ·exact a5 r hr
  by_cases hp : ∃ p ∈ nmT, ∃ u, bytesOf t = bytesOf p.2 ++ u
  ·obtain ⟨p, hp, u, eu⟩ := hp
   obtain ⟨a1, a2, a3, c, c0, c1, a4⟩ := kn_third p hp
   obtain ⟨rs2, er, e2⟩ := ascii_runes (bytesOf p.2) (r :: rs) u (fun x hx => (nmT_low p hp x hx).2) h (by rw [← e, eu])
   have q := named_yes hp eu
   have hA : All rs2 := by rw [er] at h; exact h.right
   have hk : p.1 = strOfNums [c] := str_of a4
   have hnm : nam p.1 = p.2 := by unfold nam; rw [a3]; rfl
   rw [hk, ← e2] at q
   refine go q (show Rn [c] from c1) ?_ (by rw [← hk, a4]) (str_bytes (fun x hx => bytes_range t x (by rw [eu, ← e2]; simp [hx]))) hA ?_ ?_ ?_
   ·unfold rgt; rw [← hk, a3]; rfl
   ·have := congrArg List.length er
    rw [List.length_append, List.length_map, List.length_cons] at this
    rw [List.length_cons] at hn
    omega
   ·rw [← hk, hnm, eu, e2]
   ·rw [← hk, hnm, ← bytes_len]; simp only [List.length_cons, List.length_nil]; omega
  ·have q := named_no (by omega) h e (fun p hp' hu => hp ⟨p, hp', hu⟩)
   by_cases h60 : r = [60]
   ·rw [if_pos h60] at q; exact stop q rfl
   rw [if_neg h60] at q
   by_cases g : sgn (strOfNums r) = true
   ·rw [if_pos g] at q
    have hbr : bytesOf (strOfNums r) = r := str_bytes (fun x hx => bytes_range t x (by rw [e]; simp [hx]))
    have hv := plain_key g (by rw [hbr]; exact h60)
    have hnm : nam (strOfNums r) = strOfNums r := by unfold nam; rw [hv, Option.getD_none, if_pos g]
    refine go q h.head ?_ hbr (str_bytes (fun x hx => bytes_range t x (by rw [e, List.flatten_cons]; simp only [List.mem_append]; exact Or.inr hx))) h.tail ?_ ?_ ?_
    ·unfold rgt; rw [g, Bool.or_true]
    ·rw [List.length_cons] at hn; omega
    ·rw [hnm, hbr, e]; rfl
    ·rw [hnm, ← bytes_len, hbr]; exact Nat.le_refl _
   ·rw [if_neg g] at q; exact stop q rfl
theorem glue_app (l m : List ByteArray) : glueB (l ++ m) = glueB l ++ glueB m := bytes_inj (by rw [bytes_append, bytes_glue, bytes_glue, bytes_glue, List.flatMap_append])
theorem glue_strs (xs : List (List Int)) (hx : ∀ r ∈ xs, bytesOf (strOfNums r) = r) : bytesOf (glueB (xs.map strOfNums)) = xs.flatten := by
 rw [bytes_glue]
 induction xs with
 | nil => rfl
 | cons r xs ih => rw [List.map_cons, List.flatMap_cons, List.flatten_cons, ih (fun r hr => hx r (by simp [hr])), hx r (by simp)]
theorem txt_size {s : ByteArray} {rs : List (List Int)} (h : All rs) (e : bytesOf s = rs.flatten) : (txt rs).size ≤ 7 * rs.length := by
 unfold txt
 rw [glue_size]
 have := sum_le (rs.map fun r => nam (strOfNums r)) (fun t ht => by obtain ⟨r, hr, rfl⟩ := List.mem_map.1 ht; exact nam_size _ (runes_four h e r hr).2)
 rw [List.length_map] at this
 exact this
/-- What a text of keys tells. -/
theorem text_or (s : ByteArray) (hs : s.size ≤ 1000000) : (∃ rs, All rs ∧ bytesOf s = rs.flatten ∧ allR rs = true ∧ Ev (fun k => key_Text.f k s) (txt rs, 0)) ∨ ∃ e : Int, e ≠ 0 ∧ Ev (fun k => key_Text.f k s) (⟨#[]⟩, e) := by
 by_cases hv : Val (bytesOf s)
 ·obtain ⟨rs, h, e⟩ := hv
  have q := text_yes hs h e
  by_cases g : allR rs = true
  ·rw [if_pos g] at q; exact .inl ⟨rs, h, e, g, q⟩
  ·rw [if_neg g] at q; exact .inr ⟨9, by decide, q⟩
 ·exact .inr ⟨5, by decide, text_no hv⟩
theorem singles (l : List Int) : (l.map fun x => [x]).flatten = l := by
 induction l with
 | nil => rfl
 | cons x l ih => simp [ih]
theorem name_runes {r : List Int} (hr : Rn r) (hb : bytesOf (strOfNums r) = r) (hg : rgt (strOfNums r) = true) : ∃ m, All m ∧ bytesOf (nam (strOfNums r)) = m.flatten := by
 unfold rgt at hg
 unfold nam
 cases hv : nmV (strOfNums r) with
 | some x =>
  refine ⟨(bytesOf x).map fun y => [y], fun q hq => ?_, by rw [singles]; rfl⟩
  obtain ⟨y, hy, rfl⟩ := List.mem_map.1 hq
  exact (nmT_low _ (key_of hv) y hy).2
 | none =>
  rw [hv, Option.isSome_none, Bool.false_or] at hg
  rw [Option.getD_none, if_pos hg]
  exact ⟨[r], All.cons hr All.nil, by simpa using hb⟩
theorem txt_runes : ∀ (ks : List (List Int)), All ks → allR ks = true → (∀ r ∈ ks, bytesOf (strOfNums r) = r) → ∃ m, All m ∧ bytesOf (txt ks) = m.flatten
 | [], _, _, _ => ⟨[], All.nil, rfl⟩
 | r :: ks, h, g, hb => by
  unfold allR at g
  rw [List.all_cons, Bool.and_eq_true] at g
  obtain ⟨m, h1, e1⟩ := name_runes h.head (hb r (by simp)) g.1
  obtain ⟨n, h2, e2⟩ := txt_runes ks h.tail g.2 (fun q hq => hb q (by simp [hq]))
  exact ⟨m ++ n, h1.append h2, by rw [txt_cons, bytes_append, e1, e2, List.flatten_append]⟩
/-- Keys' text is read as the keys. -/
theorem ptxt_l : ∀ (ks : List (List Int)) (b : ByteArray), All ks → allR ks = true → (∀ r ∈ ks, bytesOf (strOfNums r) = r) → (txt ks).size + b.size + ks.flatten.length ≤ 1000000 → Ev (fun k => key_Parse.l0 k (txt ks) b) (b ++ glueB (ks.map strOfNums), 0)
 | [], b, _, _, _, _ => by
  refine ev_off 1 ?_
  simp only [key_Parse.l0]
  rw [List.map_nil, app_nil]
  exact ev_pos ((toList_nil _).2 rfl) (Ev.now _)
 | r :: ks, b, h, g, hb, hz => by
  have g0 := g
  unfold allR at g
  rw [List.all_cons, Bool.and_eq_true] at g
  have hbr := hb r (by simp)
  have hbk := fun q (hq : q ∈ ks) => hb q (by simp [hq])
  have hz1 : (strOfNums r).size = r.length := by rw [← bytes_len, hbr]
  rw [txt_cons, ByteArray.size_append, List.flatten_cons, List.length_append] at hz
  have ih := ptxt_l ks (b ++ strOfNums r) h.tail g.2 hbk (by rw [ByteArray.size_append]; omega)
  obtain ⟨m, hm, em⟩ := txt_runes ks h.tail g.2 hbk
  have ht : bytesOf (txt (r :: ks)) = bytesOf (nam (strOfNums r)) ++ bytesOf (txt ks) := by rw [txt_cons, bytes_append]
  have hx : strOfNums (bytesOf (txt ks)) = txt ks := (str_of rfl).symm
  have hq : Ev (fun k => key_named.f k (txt (r :: ks))) (strOfNums r, txt ks) := by
   cases hv : nmV (strOfNums r) with
   | some x =>
    have hn : nam (strOfNums r) = x := by unfold nam; rw [hv]; rfl
    have q := named_yes (t := txt (r :: ks)) (key_of hv) (u := bytesOf (txt ks)) (by rw [ht, hn])
    rw [hx] at q
    exact q
   | none =>
    have hg := g.1
    unfold rgt at hg
    rw [hv, Option.isSome_none, Bool.false_or] at hg
    have hn : nam (strOfNums r) = strOfNums r := by unfold nam; rw [hv, Option.getD_none, if_pos hg]
    have h60 : r ≠ [60] := by
     rintro rfl
     have : nmV (strOfNums [60]) = some ⟨#[60, 108, 116, 62]⟩ := by decide +kernel
     rw [this] at hv
     cases hv
    have e : bytesOf (txt (r :: ks)) = (r :: m).flatten := by rw [ht, hn, hbr, em]; rfl
    have q := named_no (t := txt (r :: ks)) (rs := m) (by rw [txt_cons, ByteArray.size_append]; omega) (All.cons h.head hm) e (fun p hp ⟨u, hu⟩ => by
     apply h60
     apply sixty h.head
     have h0 : ∀ p ∈ nmT, (bytesOf p.2).head? = some 60 := by decide +kernel
     have h1 := h0 p hp
     rw [e, List.flatten_cons] at hu
     have h2 := congrArg List.head? hu
     rw [List.head?_append, List.head?_append, h1] at h2
     cases hr : r with
     | nil => exact absurd hr (one_ne h.head)
     | cons a y => rw [hr] at h2; simpa using h2)
    rw [if_neg h60, if_pos hg, ← em, hx] at q
    exact q
  refine ev_off 1 ?_
  simp only [key_Parse.l0]
  have hqn : ¬ (strOfNums r).toList = ([] : List UInt8) := by rw [toList_nil, hbr]; exact one_ne h.head
  have hne : ¬ (txt (r :: ks)).toList = ([] : List UInt8) := fun q => by
   rw [toList_nil, ht] at q
   have h1 : bytesOf (nam (strOfNums r)) = [] := List.append_eq_nil_iff.1 q |>.1
   have h2 := nam_nil (strOfNums r)
   rw [g.1, bne_iff_ne] at h2
   exact h2 ((toList_nil _).2 h1)
  refine ev_neg hne (ev_bind hq (ev_neg hqn (ev_pos (by show b.size + (strOfNums r).size ≤ _; omega) ?_)))
  rw [List.map_cons, glue_cons, ← app_assoc]
  exact ih
theorem nil_app (x : ByteArray) : (⟨#[]⟩ : ByteArray) ++ x = x := bytes_inj (by rw [bytes_append, bytes_empty, List.nil_append])
theorem parse_no {t : ByteArray} (h : ¬ Val (bytesOf t)) : Ev (fun k => key_Parse.f k t) (⟨#[]⟩, 5) := by
 unfold key_Parse.f
 exact ev_bind (valid_no h) (ev_neg (by decide) (Ev.now _))
theorem parse_yes {t : ByteArray} {rs : List (List Int)} (h : All rs) (e : bytesOf t = rs.flatten) (hz : t.size ≤ 1000000) :
  ∃ (ks : List (List Int)) (e : Int), Ev (fun k => key_Parse.f k t) (if e = 0 then glueB (ks.map strOfNums) else ⟨#[]⟩, e) ∧ (e = 0 ∨ e = 3) ∧ (e = 0 → All ks ∧ allR ks = true ∧ txt ks = t ∧ ks.flatten.length ≤ t.size ∧ ∀ r ∈ ks, bytesOf (strOfNums r) = r) := by
 obtain ⟨ks, e2, p1, p2⟩ := parse_l rs.length rs t ⟨#[]⟩ (Nat.le_refl _) h e (by show t.size + 0 ≤ _; omega)
 refine ⟨ks, e2, ?_, p2⟩
 unfold key_Parse.f
 rw [nil_app] at p1
 exact ev_bind (valid_yes ⟨rs, h, e⟩) (evr p1)
theorem parse_txt {ks : List (List Int)} (h : All ks) (g : allR ks = true) (hb : ∀ r ∈ ks, bytesOf (strOfNums r) = r) (hz : (txt ks).size + ks.flatten.length ≤ 1000000) : Ev (fun k => key_Parse.f k (txt ks)) (glueB (ks.map strOfNums), 0) := by
 unfold key_Parse.f
 obtain ⟨m, hm, em⟩ := txt_runes ks h g hb
 have q := ptxt_l ks ⟨#[]⟩ h g hb (by show _ + 0 + _ ≤ _; omega)
 rw [nil_app] at q
 exact ev_bind (valid_yes ⟨m, hm, em⟩) (evr q)
end Go.Proofs.Ytealbonfaebikaa.KeyBackKey
