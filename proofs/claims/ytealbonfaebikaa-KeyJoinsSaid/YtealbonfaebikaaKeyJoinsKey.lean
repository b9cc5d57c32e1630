/- What the functions of layer 13, the program's and the document's, tell: keys, signs, names.
  Template: Ytealbonfaebikaa the seat's name, KeyJoins the law's key; in pieces. -/
import Derived.Test.YtealbonfaebikaaKeyJoinsUtf
namespace Go.Proofs.Ytealbonfaebikaa.KeyJoinsKey
open Go.RowKit Go.Proofs.YtealbonfaebikaaW.PrintWords Go.Proofs.YtealbonfaebikaaW.PrintLast Go.Proofs.YtealbonfaebikaaW.PrintMore
open Go.Proofs.Ytealbonfaebikaa.PKeyJoins Go.Proofs.Ytealbonfaebikaa.Utf Go.Proofs.Ytealbonfaebikaa.Open Go.Proofs.Ytealbonfaebikaa.KeyJoinsUtf
set_option linter.unusedVariables false
set_option linter.unusedSimpArgs false

theorem evr {α : Type} {c : Prop} [Decidable c] {a b : Nat → Option α} {r : α} (k : Ev a r) (h : c := by first | rfl | trivial | simp) : Ev (fun n => if c then a n else b n) r := ev_pos h k
theorem lives_ : Ev (fun k => calamuslaw13_lives.f k) true := Ev.of calamuslaw13_lives.mono (k := 40) (by decide +kernel)
def sgnB (s : ByteArray) : Bool := if (s.size : Int) > 1 then true else if bt s 0 ≥ 32 then decide (bt s 0 < 127) else false
/-- Is it a sign? -/
def sgn (s : ByteArray) : Bool := if Rn (bytesOf s) then sgnB s else false
theorem rn_size {s : ByteArray} (h : Rn (bytesOf s)) : 1 ≤ s.size ∧ s.size ≤ 4 := by rw [← bytes_len]; exact one_len h
theorem nm_list (s : ByteArray) (b : UInt8) : s.toList = [b] ↔ s = ⟨#[b]⟩ := by
 have e : (⟨#[b]⟩ : ByteArray).toList = [b] := by rw [ByteArray.toList_eq]
 constructor
 ·intro h; rw [← e] at h; exact (toList_inj _ _).1 h
 ·intro h; rw [h, e]
theorem sign_is (s : ByteArray) (hs : s.size ≤ 140737488351232) : Ev (fun k => key_Sign.f k s) (sgn s) := by
 unfold key_Sign.f
 by_cases hv : Val (bytesOf s)
 ·obtain ⟨rs, h, e⟩ := hv
  refine ev_bind (count_yes hs h e) ?_
  by_cases h1 : rs.length = 1
  ·obtain ⟨r, rfl⟩ := List.length_eq_one_iff.1 h1
   have hr : Rn (bytesOf s) := by rw [e]; simpa using h.head
   have hz := rn_size hr
   refine ev_pos (by simp) ?_
   unfold sgn sgnB
   rw [if_pos hr]
   by_cases h2 : (s.size : Int) > 1
   ·refine ev_pos h2 ?_
    rw [if_pos h2]; exact Ev.now _
   ·refine ev_neg h2 (ev_pos (by omega) ?_)
    rw [if_neg h2]
    by_cases h3 : bt s 0 ≥ 32
    ·refine ev_pos h3 ?_
     rw [if_pos h3]; exact Ev.now _
    ·refine ev_neg h3 ?_
     rw [if_neg h3]; exact Ev.now _
  ·have hr : ¬ Rn (bytesOf s) := by
    intro hr
    have : rs = [bytesOf s] := runes_inj h (All.cons hr All.nil) (by rw [← e]; simp)
    rw [this] at h1
    exact h1 rfl
   unfold sgn
   rw [if_neg hr]
   exact ev_neg (by omega) (Ev.now _)
 ·refine ev_bind (count_no hv) ?_
  have hr : ¬ Rn (bytesOf s) := by
   intro hr
   exact hv ⟨[bytesOf s], All.cons hr All.nil, by simp⟩
  unfold sgn
  rw [if_neg hr]
  exact ev_neg (by decide) (Ev.now _)
/-- A key's name. -/
def nam (s : ByteArray) : ByteArray := (nmV s).getD (if sgn s = true then s else ⟨#[]⟩)
def rgt (s : ByteArray) : Bool := (nmV s).isSome || sgn s
theorem name_is (s : ByteArray) (hs : s.size ≤ 140737488351232) : Ev (fun k => key_Name.f k s) (nam s) := by
 unfold key_Name.f nam
 cases h : nmV s with
 | some x => exact evr (Ev.now _)
 | none =>
  refine ev_neg (by simp) (ev_bind (sign_is s hs) ?_)
  by_cases g : sgn s = true
  ·refine ev_pos g ?_
   rw [Option.getD_none, if_pos g]; exact Ev.now _
  ·refine ev_neg g ?_
   rw [Option.getD_none, if_neg g]; exact Ev.now _
theorem right_is (s : ByteArray) (hs : s.size ≤ 140737488351232) : Ev (fun k => key_Right.f k s) (rgt s) := by
 unfold key_Right.f rgt
 cases h : nmV s with
 | some x => exact evr (Ev.now _)
 | none =>
  refine ev_neg (by simp) (ev_bind (sign_is s hs) ?_)
  rw [Option.isSome_none, Bool.false_or]
  exact Ev.now _
theorem get_is (s : ByteArray) (i : Nat) (x : Int) (h : (bytesOf s)[i]? = some x) : i < s.size ∧ ((s.get! i).toNat : Int) = x := by
 have hi : i < s.size := by rw [← bytes_len]; exact (List.getElem?_eq_some_iff.1 h).1
 refine ⟨hi, ?_⟩
 have e := get_at s i hi
 rw [Nat.add_zero] at e
 have q := bt_at s (i : Int) (by rw [Int.toNat_natCast]; exact hi)
 simp only [Int.toNat_natCast] at q
 rw [e, q, bytes_get, Int.toNat_natCast, List.getD_eq_getElem?_getD, h]; rfl
theorem drop_at {l r post : List Int} {p : Nat} (e : l.drop p = r ++ post) (k : Nat) (hk : k < r.length) : l[p + k]? = some r[k] := by
 have : (l.drop p)[k]? = some r[k] := by rw [e, List.getElem?_append_left hk, List.getElem?_eq_getElem hk]
 rwa [List.getElem?_drop] at this
theorem enc_bytes (n : Nat) (hv : Utf8.valid n = true) : bytesOf (Utf8.encode n) = if n < 128 then [(n : Int)] else if n < 2048 then [192 + (n : Int) / 64, 128 + (n : Int) % 64]
  else if n < 65536 then [224 + (n : Int) / 4096, 128 + (n : Int) / 64 % 64, 128 + (n : Int) % 64] else [240 + (n : Int) / 262144, 128 + (n : Int) / 4096 % 64, 128 + (n : Int) / 64 % 64, 128 + (n : Int) % 64] := by
 have hn : n ≤ 1114111 := by unfold Utf8.valid at hv; simp at hv; omega
 unfold Utf8.encode
 simp only [hv, if_true, Int.toNat_natCast]
 have hu : ∀ m : Nat, m < 256 → ((UInt8.ofNat m).toNat : Int) = (m : Int) := fun m hm => by rw [UInt8.toNat_ofNat']; omega
 have q : ∀ l : List UInt8, bytesOf ⟨l.toArray⟩ = l.map fun b => (b.toNat : Int) := fun l => by simp [bytesOf]
 by_cases h1 : n < 128
 ·rw [if_pos h1, if_pos h1]
  show bytesOf ⟨[UInt8.ofNat n].toArray⟩ = _
  rw [q]
  simp only [List.map_cons, List.map_nil]
  rw [hu n (by omega)]
 rw [if_neg h1, if_neg h1]
 by_cases h2 : n < 2048
 ·rw [if_pos h2, if_pos h2]
  show bytesOf ⟨[UInt8.ofNat (192 + n / 64), UInt8.ofNat (128 + n % 64)].toArray⟩ = _
  rw [q]
  simp only [List.map_cons, List.map_nil]
  rw [hu _ (by omega), hu _ (by omega)]
  simp
 rw [if_neg h2, if_neg h2]
 by_cases h3 : n < 65536
 ·rw [if_pos h3, if_pos h3]
  show bytesOf ⟨[UInt8.ofNat (224 + n / 4096), UInt8.ofNat (128 + n / 64 % 64), UInt8.ofNat (128 + n % 64)].toArray⟩ = _
  rw [q]
  simp only [List.map_cons, List.map_nil]
  rw [hu _ (by omega), hu _ (by omega), hu _ (by omega)]
  simp
 rw [if_neg h3, if_neg h3]
 show bytesOf ⟨[UInt8.ofNat (240 + n / 262144), UInt8.ofNat (128 + n / 4096 % 64), UInt8.ofNat (128 + n / 64 % 64), UInt8.ofNat (128 + n % 64)].toArray⟩ = _
 rw [q]
 simp only [List.map_cons, List.map_nil]
 rw [hu _ (by omega), hu _ (by omega), hu _ (by omega), hu _ (by omega)]
 simp
theorem valid_of (n : Nat) (h : n < 55296 ∨ (57344 ≤ n ∧ n ≤ 1114111)) : Utf8.valid n = true := by
 unfold Utf8.valid
 simp
 omega
theorem list3 {a b c x y z : Int} (h1 : a = x) (h2 : b = y) (h3 : c = z) : [a, b, c] = [x, y, z] := by rw [h1, h2, h3]
theorem list4 {a b c d x y z u : Int} (h1 : a = x) (h2 : b = y) (h3 : c = z) (h4 : d = u) : [a, b, c, d] = [x, y, z, u] := by rw [h1, h2, h3, h4]
/-- At a rune's place the rune is told, and goes back into its bytes. -/
theorem dec_one (s : ByteArray) (p : Nat) (r post : List Int) (h : Rn r) (e : (bytesOf s).drop p = r ++ post) : ∃ c : Nat, Utf8.decode s p = (c, r.length) ∧ bytesOf (Utf8.encode c) = r := by
 have hb := bytes_range s
 have g : ∀ k (hk : k < r.length), p + k < s.size ∧ ((s.get! (p + k)).toNat : Int) = r[k] := fun k hk => get_is s (p + k) _ (drop_at e k hk)
 have hr : ∀ x ∈ r, 0 ≤ x ∧ x ≤ 255 := fun x hx => hb x (by
  have : x ∈ (bytesOf s).drop p := by rw [e]; simp [hx]
  exact List.mem_of_mem_drop this)
 rcases r with _ | ⟨a, _ | ⟨b, _ | ⟨c, _ | ⟨d, _ | ⟨x, t⟩⟩⟩⟩⟩
 ·exact h.elim
 ·have h : a < 128 := h
  obtain ⟨_, g0⟩ := g 0 (by simp)
  have ha := hr a (by simp)
  simp only [List.getElem_cons_zero] at g0
  refine ⟨(s.get! (p + 0)).toNat, ?_, ?_⟩
  ·unfold Utf8.decode
   simp only
   rw [if_pos (by omega)]
   rfl
  ·rw [enc_bytes _ (valid_of _ (by omega)), if_pos (by omega), g0]
 ·have h : 194 ≤ a ∧ a < 224 ∧ B2 a b := h
  obtain ⟨_, g0⟩ := g 0 (by simp)
  obtain ⟨z1, g1⟩ := g 1 (by simp)
  simp only [List.getElem_cons_zero, List.getElem_cons_succ] at g0 g1
  unfold B2 at h
  generalize hn0 : (s.get! (p + 0)).toNat = n0 at g0
  generalize hn1 : (s.get! (p + 1)).toNat = n1 at g1
  refine ⟨(n0 % 32) * 64 + n1 % 64, ?_, ?_⟩
  ·unfold Utf8.decode
   simp only [hn0, hn1]
   rw [if_neg (by omega), if_pos (by simp; omega), if_pos (by omega)]
   rfl
  ·rw [enc_bytes _ (valid_of _ (by omega)), if_neg (by omega), if_pos (by omega)]
   congr 1
   ·omega
   ·congr 1; omega
 ·have h : 224 ≤ a ∧ a < 240 ∧ B2 a b ∧ In c := h
  obtain ⟨_, g0⟩ := g 0 (by simp)
  obtain ⟨z1, g1⟩ := g 1 (by simp)
  obtain ⟨z2, g2⟩ := g 2 (by simp)
  simp only [List.getElem_cons_zero, List.getElem_cons_succ] at g0 g1 g2
  unfold B2 In at h
  generalize hn0 : (s.get! (p + 0)).toNat = n0 at g0
  generalize hn1 : (s.get! (p + 1)).toNat = n1 at g1
  generalize hn2 : (s.get! (p + 2)).toNat = n2 at g2
  have hv := valid_of ((n0 % 16) * 4096 + (n1 % 64) * 64 + n2 % 64) (by omega)
  refine ⟨(n0 % 16) * 4096 + (n1 % 64) * 64 + n2 % 64, ?_, ?_⟩
  ·unfold Utf8.decode
   simp only [hn0, hn1, hn2]
   rw [if_neg (by omega), if_neg (by simp; omega), if_pos (by simp; omega), if_pos (by rw [hv]; simp; omega)]
   rfl
  ·rw [enc_bytes _ hv, if_neg (by omega), if_neg (by omega), if_pos (by omega)]
   refine list3 ?_ ?_ ?_ <;> omega
 ·have h : 240 ≤ a ∧ a < 245 ∧ B2 a b ∧ In c ∧ In d := h
  obtain ⟨_, g0⟩ := g 0 (by simp)
  obtain ⟨z1, g1⟩ := g 1 (by simp)
  obtain ⟨z2, g2⟩ := g 2 (by simp)
  obtain ⟨z3, g3⟩ := g 3 (by simp)
  simp only [List.getElem_cons_zero, List.getElem_cons_succ] at g0 g1 g2 g3
  unfold B2 In at h
  generalize hn0 : (s.get! (p + 0)).toNat = n0 at g0
  generalize hn1 : (s.get! (p + 1)).toNat = n1 at g1
  generalize hn2 : (s.get! (p + 2)).toNat = n2 at g2
  generalize hn3 : (s.get! (p + 3)).toNat = n3 at g3
  have hv := valid_of ((n0 % 8) * 262144 + (n1 % 64) * 4096 + (n2 % 64) * 64 + n3 % 64) (by omega)
  refine ⟨(n0 % 8) * 262144 + (n1 % 64) * 4096 + (n2 % 64) * 64 + n3 % 64, ?_, ?_⟩
  ·unfold Utf8.decode
   simp only [hn0, hn1, hn2, hn3]
   rw [if_neg (by omega), if_neg (by simp; omega), if_neg (by simp; omega), if_pos (by simp; omega), if_pos (by rw [hv]; simp; omega)]
   rfl
  ·rw [enc_bytes _ hv, if_neg (by omega), if_neg (by omega), if_neg (by omega)]
   refine list4 ?_ ?_ ?_ ?_ <;> omega
 ·exact h.elim
theorem str_of {t : ByteArray} {r : List Int} (h : bytesOf t = r) : t = strOfNums r := bytes_inj (by rw [bytes_nums (fun x hx => bytes_range t x (by rw [h]; exact hx))]; exact h)
theorem str_bytes {r : List Int} (h : ∀ x ∈ r, 0 ≤ x ∧ x ≤ 255) : bytesOf (strOfNums r) = r := bytes_nums h
/-- Are all of them keys? -/
def allR (rs : List (List Int)) : Bool := rs.all fun r => rgt (strOfNums r)
theorem split_l (s : ByteArray) (hs : s.size ≤ 1000000) : ∀ (rs : List (List Int)) (p : Nat) (acc : List ByteArray), All rs → (bytesOf s).drop p = rs.flatten → p ≤ s.size → acc.length ≤ p →
  Ev (fun k => key_Split.l0 k s p acc) (if allR rs = true then (acc ++ rs.map strOfNums, 0) else ([], 9))
 | [], p, acc, _, e, hp, ha => by
  have hl : s.size ≤ p := by
   have := congrArg List.length e
   rw [List.length_drop, bytes_len] at this
   simp at this
   omega
  refine ev_off 1 ?_
  simp only [key_Split.l0]
  refine ev_neg (by omega) ?_
  have e0 : allR [] = true := rfl
  rw [if_pos e0]
  simp only [List.map_nil, List.append_nil]
  exact Ev.now _
 | r :: rs, p, acc, h, e, hp, ha => by
  have h1 := one_len h.head
  have hl : p + r.length ≤ s.size := by
   have := congrArg List.length e
   rw [List.length_drop, bytes_len, List.flatten_cons, List.length_append] at this
   omega
  have e' : (bytesOf s).drop (p + r.length) = rs.flatten := by
   rw [← List.drop_drop, e, List.flatten_cons, List.drop_left]
  obtain ⟨c, hd, he⟩ := dec_one s p r rs.flatten h.head (by rw [e]; rfl)
  have hc := str_of he
  refine ev_off 1 ?_
  simp only [key_Split.l0, hd]
  rw [hc]
  refine ev_pos (by omega) (ev_bind (right_is _ (by rw [← hc, ← bytes_len, he]; omega)) ?_)
  unfold allR
  rw [List.all_cons]
  by_cases g : rgt (strOfNums r) = true
  ·rw [g, Bool.true_and]
   have q := split_l s hs rs (p + r.length) (acc ++ [strOfNums r]) h.tail e' hl (by simp; omega)
   unfold allR at q
   rw [List.append_assoc] at q
   exact evr (ev_pos (by omega) q)
  ·simp only [Bool.not_eq_true] at g
   rw [g, Bool.false_and]
   exact ev_neg (by decide) (Ev.now _)
theorem split_yes {s : ByteArray} (hs : s.size ≤ 1000000) {rs : List (List Int)} (h : All rs) (e : bytesOf s = rs.flatten) : Ev (fun k => key_Split.f k s) (if allR rs = true then (rs.map strOfNums, 0) else ([], 9)) := by
 unfold key_Split.f
 refine ev_bind (valid_yes ⟨rs, h, e⟩) (evr ?_)
 have q := split_l s hs rs 0 [] h (by rw [List.drop_zero, e]) (by omega) (by simp)
 rw [List.nil_append] at q
 exact q
theorem split_no {s : ByteArray} (h : ¬ Val (bytesOf s)) : Ev (fun k => key_Split.f k s) ([], 5) := by
 unfold key_Split.f
 exact ev_bind (valid_no h) (ev_neg (by decide) (Ev.now _))
/-- Texts as one. -/
def glueB (l : List ByteArray) : ByteArray := ⟨(l.map (·.data.toList)).flatten.toArray⟩
theorem join_flat (xs : List (List UInt8)) : Lib.join xs [] = xs.flatten := by
 cases xs with
 | nil => rfl
 | cons x r =>
  rw [Lib.join_cons]
  unfold Lib.joinTail
  simp
theorem data_bytes (s : ByteArray) : bytesOf s = s.data.toList.map (fun b => (b.toNat : Int)) := rfl
theorem bytes_glue (l : List ByteArray) : bytesOf (glueB l) = l.flatMap bytesOf := by
 rw [data_bytes]
 show List.map _ (List.flatten _).toArray.toList = _
 simp only [List.map_flatten, List.map_map, List.flatMap]
 congr 1
theorem glue_size (l : List ByteArray) : (glueB l).size = (l.map ByteArray.size).sum := by
 rw [← bytes_len, bytes_glue, List.length_flatMap]
 congr 1
 apply List.map_congr_left
 intro s _
 exact bytes_len s
theorem nmT_size : ∀ p ∈ nmT, p.2.size ≤ 7 := by decide +kernel
theorem nam_size (s : ByteArray) (hs : s.size ≤ 4) : (nam s).size ≤ 7 := by
 unfold nam
 cases h : nmV s with
 | some x =>
  unfold nmV at h
  obtain ⟨p, hp, rfl⟩ := Option.map_eq_some_iff.1 h
  exact nmT_size p (List.mem_of_find?_eq_some hp)
 | none =>
  rw [Option.getD_none]
  split
  ·omega
  ·show (0 : Nat) ≤ 7; omega
theorem rdO {l : List ByteArray} {i : Nat} (h : i < l.length) : rdOf ByteArray.empty l (i : Int) = l[i] := by
 unfold rdOf
 rw [Int.toNat_natCast, List.getD_eq_getElem?_getD, List.getElem?_eq_getElem h]; rfl
theorem join_is (l : List ByteArray) (hl : l.length ≤ 1000000) (hs : (glueB l).size ≤ 140737488355328) : strings_Join.f l ⟨#[]⟩ = some (glueB l) := by
 unfold strings_Join.f
 have e : (⟨#[]⟩ : ByteArray).data.toList = ([] : List UInt8) := rfl
 rw [e, join_flat]
 have hz : ((l.map (·.data.toList)).flatten).length ≤ 140737488355328 := by
  have : (glueB l).size = ((l.map (·.data.toList)).flatten).length := by unfold glueB; simp [ByteArray.size]
  omega
 rw [if_pos ⟨hl, hz⟩]
 rfl
theorem sum_le (l : List ByteArray) (h : ∀ t ∈ l, t.size ≤ 7) : (l.map ByteArray.size).sum ≤ 7 * l.length := by
 induction l with
 | nil => simp
 | cons x l ih =>
  have := ih (fun t ht => h t (by simp [ht]))
  have := h x (by simp)
  simp
  omega
theorem text_l (L : List ByteArray) (hL : L.length ≤ 1000000) (h4 : ∀ t ∈ L, t.size ≤ 4) (d : Nat) : ∀ i : Nat, i + d = L.length →
  Ev (fun k => key_Text.l0 k ((L.take i).map nam ++ L.drop i) (L.length : Int) i) (glueB (L.map nam), 0) := by
 induction d with
 | zero =>
  intro i hi
  refine ev_off 1 ?_
  simp only [key_Text.l0]
  rw [List.take_of_length_le (by omega), List.drop_of_length_le (by omega), List.append_nil]
  refine ev_neg (by omega) ?_
  rw [join_is _ (by rw [List.length_map]; exact hL) (by
   rw [glue_size]
   have := sum_le (L.map nam) (fun t ht => by obtain ⟨u, hu, rfl⟩ := List.mem_map.1 ht; exact nam_size u (h4 u hu))
   rw [List.length_map] at this
   omega)]
  exact Ev.now _
 | succ d ih =>
  intro i hi
  have hlt : i < L.length := by omega
  refine ev_off 1 ?_
  have hlen : ((L.take i).map nam ++ L.drop i).length = L.length := by simp; omega
  have hget : ((L.take i).map nam ++ L.drop i)[i]'(by omega) = L[i] := by
   rw [List.getElem_append_right (by simp; omega)]
   simp [Nat.min_eq_left (Nat.le_of_lt hlt)]
  have hset : ((L.take i).map nam ++ L.drop i).set i (nam L[i]) = (L.take (i + 1)).map nam ++ L.drop (i + 1) := by
   rw [List.set_append_right _ _ (by simp; omega), List.length_map, List.length_take, Nat.min_eq_left (Nat.le_of_lt hlt), Nat.sub_self, List.drop_eq_getElem_cons hlt, List.set_cons_zero, List.take_succ_eq_append_getElem hlt, List.map_append, List.append_assoc]
   rfl
  simp only [key_Text.l0]
  rw [rdO (by omega), hget, Int.toNat_natCast]
  refine ev_pos (by omega) (ev_pos (by omega) (ev_pos (by omega) (ev_bind (name_is _ (by have := h4 _ (List.getElem_mem hlt); omega)) ?_)))
  rw [hset, wrap_id (x := (i : Int) + 1) (by omega) (by omega)]
  exact ih (i + 1) (by omega)
/-- The text of keys. -/
def txt (rs : List (List Int)) : ByteArray := glueB (rs.map fun r => nam (strOfNums r))
theorem runes_four {s : ByteArray} {rs : List (List Int)} (h : All rs) (e : bytesOf s = rs.flatten) : ∀ r ∈ rs, bytesOf (strOfNums r) = r ∧ (strOfNums r).size ≤ 4 := by
 intro r hr
 have hb : bytesOf (strOfNums r) = r := str_bytes (fun x hx => bytes_range s x (by rw [e]; exact List.mem_flatten.2 ⟨r, hr, hx⟩))
 exact ⟨hb, by rw [← bytes_len, hb]; exact (one_len (h r hr)).2⟩
theorem runes_len {s : ByteArray} {rs : List (List Int)} (h : All rs) (e : bytesOf s = rs.flatten) : rs.length ≤ s.size := by
 rw [← bytes_len, e]
 exact flat_len rs h
theorem text_yes {s : ByteArray} (hs : s.size ≤ 1000000) {rs : List (List Int)} (h : All rs) (e : bytesOf s = rs.flatten) : Ev (fun k => key_Text.f k s) (if allR rs = true then (txt rs, 0) else (⟨#[]⟩, 9)) := by
 unfold key_Text.f
 refine ev_bind (split_yes hs h e) ?_
 have hl := runes_len h e
 by_cases g : allR rs = true
 ·simp only [if_pos g]
  refine evr ?_
  have q := text_l (rs.map strOfNums) (by rw [List.length_map]; omega) (fun t ht => by obtain ⟨r, hr, rfl⟩ := List.mem_map.1 ht; exact (runes_four h e r hr).2) rs.length 0 (by simp)
  simp only [List.take_zero, List.map_nil, List.nil_append, List.drop_zero, List.map_map] at q
  exact q
 ·simp only [if_neg g]
  exact ev_neg (by decide) (Ev.now _)
theorem text_no {s : ByteArray} (h : ¬ Val (bytesOf s)) : Ev (fun k => key_Text.f k s) (⟨#[]⟩, 5) := by
 unfold key_Text.f
 exact ev_bind (split_no h) (ev_neg (by decide) (Ev.now _))
end Go.Proofs.Ytealbonfaebikaa.KeyJoinsKey
