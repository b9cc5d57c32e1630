/- What the functions of layer 13, the program's and the document's, tell: keys, signs, names.
  Template: Ytealbonfaebikaa the seat's name, KeyTexts the law's key; in pieces. -/
import Derived.Test.YtealbonfaebikaaKeyTextsUtf
namespace Go.Proofs.Ytealbonfaebikaa.KeyTextsKey
open Go.RowKit Go.Proofs.YtealbonfaebikaaW.PrintWords Go.Proofs.YtealbonfaebikaaW.PrintLast Go.Proofs.YtealbonfaebikaaW.PrintMore
open Go.Proofs.Ytealbonfaebikaa.PKeyTexts Go.Proofs.Ytealbonfaebikaa.Utf Go.Proofs.Ytealbonfaebikaa.Open Go.Proofs.Ytealbonfaebikaa.KeyTextsUtf
set_option linter.unusedVariables false
set_option linter.unusedSimpArgs false

theorem evr {α : Type} {c : Prop} [Decidable c] {a b : Nat → Option α} {r : α} (k : Ev a r) (h : c := by first | rfl | trivial | simp) : Ev (fun n => if c then a n else b n) r := ev_pos h k
theorem lives_ : Ev (fun k => calamuslaw13_lives.f k) true := Ev.of calamuslaw13_lives.mono (k := 40) (by decide +kernel)
def sgnB (s : ByteArray) : Bool := if (s.size : Int) > 1 then true else if bt s 0 ≥ 32 then decide (bt s 0 < 127) else false
/-- Is it a sign? -/
def sgn (s : ByteArray) : Bool := if Rn (bytesOf s) then sgnB s else false
theorem rn_size {s : ByteArray} (h : Rn (bytesOf s)) : 1 ≤ s.size ∧ s.size ≤ 4 := by rw [← bytes_len]; exact one_len h
theorem nm_list (s : ByteArray) (b : UInt8) : s.toList = [b] ↔ s = ⟨#[b]⟩ := by
 have e : (⟨#[b]⟩ : ByteArray).toList = [b] := by rw [ByteArray.toList_eq]
 constructor
 ·intro h; rw [← e] at h; exact (toList_inj _ _).1 h
 ·intro h; rw [h, e]
theorem sign_is (s : ByteArray) (hs : s.size ≤ 140737488351232) : Ev (fun k => key_Sign.f k s) (sgn s) := by
 unfold key_Sign.f
 by_cases hv : Val (bytesOf s)
 ·obtain ⟨rs, h, e⟩ := hv
  refine ev_bind (count_yes hs h e) ?_
  by_cases h1 : rs.length = 1
  ·obtain ⟨r, rfl⟩ := List.length_eq_one_iff.1 h1
   have hr : Rn (bytesOf s) := by rw [e]; simpa using h.head
   have hz := rn_size hr
   refine ev_pos (by simp) ?_
   unfold sgn sgnB
   rw [if_pos hr]
   by_cases h2 : (s.size : Int) > 1
   ·refine ev_pos h2 ?_
    rw [if_pos h2]; exact Ev.now _
   ·refine ev_neg h2 (ev_pos (by omega) ?_)
    rw [if_neg h2]
    by_cases h3 : bt s 0 ≥ 32
    ·refine ev_pos h3 ?_
     rw [if_pos h3]; exact Ev.now _
    ·refine ev_neg h3 ?_
     rw [if_neg h3]; exact Ev.now _
  ·have hr : ¬ Rn (bytesOf s) := by
    intro hr
    have : rs = [bytesOf s] := runes_inj h (All.cons hr All.nil) (by rw [← e]; simp)
    rw [this] at h1
    exact h1 rfl
   unfold sgn
   rw [if_neg hr]
   exact ev_neg (by omega) (Ev.now _)
 ·refine ev_bind (count_no hv) ?_
  have hr : ¬ Rn (bytesOf s) := by
   intro hr
   exact hv ⟨[bytesOf s], All.cons hr All.nil, by simp⟩
  unfold sgn
  rw [if_neg hr]
  exact ev_neg (by decide) (Ev.now _)
theorem rsign_is (s : ByteArray) : Ev (fun k => calamusref13_Sign.f k s) (sgn s) := by
 unfold calamusref13_Sign.f
 refine ev_bind (is_any s) ?_
 unfold sgn
 by_cases hr : Rn (bytesOf s)
 ·have hz := rn_size hr
  rw [if_pos hr]
  refine ev_pos (decide_eq_true hr) ?_
  unfold sgnB
  by_cases h2 : (s.size : Int) > 1
  ·refine ev_pos h2 ?_
   rw [if_pos h2]; exact Ev.now _
  ·refine ev_neg h2 (ev_pos (by omega) ?_)
   rw [if_neg h2]
   by_cases h3 : bt s 0 ≥ 32
   ·refine ev_pos h3 ?_
    rw [if_pos h3]
    have e : decide (bt s 0 < 127) = decide (bt s 0 ≤ 126) := by rw [decide_eq_decide]; omega
    rw [e]
    exact Ev.now _
   ·refine ev_neg h3 ?_
    rw [if_neg h3]; exact Ev.now _
 ·rw [if_neg hr]
  exact ev_neg (by simpa using hr) (Ev.now _)
/-- A key's name. -/
def nam (s : ByteArray) : ByteArray := (nmV s).getD (if sgn s = true then s else ⟨#[]⟩)
def rgt (s : ByteArray) : Bool := (nmV s).isSome || sgn s
theorem name_is (s : ByteArray) (hs : s.size ≤ 140737488351232) : Ev (fun k => key_Name.f k s) (nam s) := by
 unfold key_Name.f nam
 cases h : nmV s with
 | some x => exact evr (Ev.now _)
 | none =>
  refine ev_neg (by simp) (ev_bind (sign_is s hs) ?_)
  by_cases g : sgn s = true
  ·refine ev_pos g ?_
   rw [Option.getD_none, if_pos g]; exact Ev.now _
  ·refine ev_neg g ?_
   rw [Option.getD_none, if_neg g]; exact Ev.now _
theorem right_is (s : ByteArray) (hs : s.size ≤ 140737488351232) : Ev (fun k => key_Right.f k s) (rgt s) := by
 unfold key_Right.f rgt
 cases h : nmV s with
 | some x => exact evr (Ev.now _)
 | none =>
  refine ev_neg (by simp) (ev_bind (sign_is s hs) ?_)
  rw [Option.isSome_none, Bool.false_or]
  exact Ev.now _
theorem nmT_ne : ∀ p ∈ nmT, bytesOf p.2 ≠ [] := by decide +kernel
theorem nmV_ne {s x : ByteArray} (h : nmV s = some x) : bytesOf x ≠ [] := by
 unfold nmV at h
 obtain ⟨p, hp, rfl⟩ := Option.map_eq_some_iff.1 h
 exact nmT_ne p (List.mem_of_find?_eq_some hp)
theorem nam_nil (s : ByteArray) : ((nam s).toList != ([] : List UInt8)) = rgt s := by
 have key : (nam s).toList = ([] : List UInt8) ↔ rgt s = false := by
  rw [toList_nil]
  unfold nam rgt
  cases h : nmV s with
  | some x => simpa using nmV_ne h
  | none =>
   rw [Option.getD_none, Option.isSome_none, Bool.false_or]
   by_cases g : sgn s = true
   ·rw [if_pos g, g]
    have hr : Rn (bytesOf s) := by unfold sgn at g; by_cases hr : Rn (bytesOf s); exact hr; rw [if_neg hr] at g; exact absurd g (by decide)
    simpa using one_ne hr
   ·rw [if_neg g]
    simp only [Bool.not_eq_true] at g
    rw [g]
    exact ⟨fun _ => rfl, fun _ => rfl⟩
 cases hb : rgt s with
 | false => rw [bne_eq_false_iff_eq]; exact key.2 hb
 | true =>
  rw [bne_iff_ne]
  intro h
  rw [key.1 h] at hb
  exact absurd hb (by decide)
theorem nm_none (s : ByteArray) (h8 : s ≠ ⟨#[8]⟩) (h9 : s ≠ ⟨#[9]⟩) (h13 : s ≠ ⟨#[13]⟩) (h18 : s ≠ ⟨#[18]⟩) (h21 : s ≠ ⟨#[21]⟩) (h23 : s ≠ ⟨#[23]⟩) (h27 : s ≠ ⟨#[27]⟩) (h60 : s ≠ ⟨#[60]⟩) : nmV s = none := by
 have q : ∀ t : ByteArray, s ≠ t → (s == t) = false := fun t h => by
  cases e : s == t with
  | false => rfl
  | true => exact absurd ((MapKept.bytes_beq s t).1 e) h
 unfold nmV nmT
 simp only [List.find?, q _ h8, q _ h9, q _ h13, q _ h18, q _ h21, q _ h23, q _ h27, q _ h60, Option.map_none]
theorem rname_is (s : ByteArray) : Ev (fun k => calamusref13_Name.f k s) (nam s) := by
 unfold calamusref13_Name.f
 simp only [nm_list]
 by_cases h8 : s = ⟨#[8]⟩
 ·subst h8; exact evr (Ev.now _)
 refine ev_neg h8 ?_
 by_cases h9 : s = ⟨#[9]⟩
 ·subst h9; exact evr (Ev.now _)
 refine ev_neg h9 ?_
 by_cases h13 : s = ⟨#[13]⟩
 ·subst h13; exact evr (Ev.now _)
 refine ev_neg h13 ?_
 by_cases h18 : s = ⟨#[18]⟩
 ·subst h18; exact evr (Ev.now _)
 refine ev_neg h18 ?_
 by_cases h21 : s = ⟨#[21]⟩
 ·subst h21; exact evr (Ev.now _)
 refine ev_neg h21 ?_
 by_cases h23 : s = ⟨#[23]⟩
 ·subst h23; exact evr (Ev.now _)
 refine ev_neg h23 ?_
 by_cases h27 : s = ⟨#[27]⟩
 ·subst h27; exact evr (Ev.now _)
 refine ev_neg h27 ?_
 by_cases h60 : s = ⟨#[60]⟩
 ·subst h60; exact evr (Ev.now _)
 refine ev_neg h60 (ev_bind (rsign_is s) ?_)
 unfold nam
 rw [nm_none s h8 h9 h13 h18 h21 h23 h27 h60, Option.getD_none]
 by_cases g : sgn s = true
 ·refine ev_pos g ?_
  rw [if_pos g]; exact Ev.now _
 ·refine ev_neg g ?_
  rw [if_neg g]; exact Ev.now _
theorem rright_is (s : ByteArray) : Ev (fun k => calamusref13_Right.f k s) (rgt s) := by
 unfold calamusref13_Right.f
 refine ev_bind (rname_is s) ?_
 rw [nam_nil]
 exact Ev.now _
theorem get_is (s : ByteArray) (i : Nat) (x : Int) (h : (bytesOf s)[i]? = some x) : i < s.size ∧ ((s.get! i).toNat : Int) = x := by
 have hi : i < s.size := by rw [← bytes_len]; exact (List.getElem?_eq_some_iff.1 h).1
 refine ⟨hi, ?_⟩
 have e := get_at s i hi
 rw [Nat.add_zero] at e
 have q := bt_at s (i : Int) (by rw [Int.toNat_natCast]; exact hi)
 simp only [Int.toNat_natCast] at q
 rw [e, q, bytes_get, Int.toNat_natCast, List.getD_eq_getElem?_getD, h]; rfl
theorem drop_at {l r post : List Int} {p : Nat} (e : l.drop p = r ++ post) (k : Nat) (hk : k < r.length) : l[p + k]? = some r[k] := by
 have : (l.drop p)[k]? = some r[k] := by rw [e, List.getElem?_append_left hk, List.getElem?_eq_getElem hk]
 rwa [List.getElem?_drop] at this
theorem enc_bytes (n : Nat) (hv : Utf8.valid n = true) : bytesOf (Utf8.encode n) = if n < 128 then [(n : Int)] else if n < 2048 then [192 + (n : Int) / 64, 128 + (n : Int) % 64]
  else if n < 65536 then [224 + (n : Int) / 4096, 128 + (n : Int) / 64 % 64, 128 + (n : Int) % 64] else [240 + (n : Int) / 262144, 128 + (n : Int) / 4096 % 64, 128 + (n : Int) / 64 % 64, 128 + (n : Int) % 64] := by
 have hn : n ≤ 1114111 := by unfold Utf8.valid at hv; simp at hv; omega
 unfold Utf8.encode
 simp only [hv, if_true, Int.toNat_natCast]
 have hu : ∀ m : Nat, m < 256 → ((UInt8.ofNat m).toNat : Int) = (m : Int) := fun m hm => by rw [UInt8.toNat_ofNat']; omega
 have q : ∀ l : List UInt8, bytesOf ⟨l.toArray⟩ = l.map fun b => (b.toNat : Int) := fun l => by simp [bytesOf]
 by_cases h1 : n < 128
 ·rw [if_pos h1, if_pos h1]
  show bytesOf ⟨[UInt8.ofNat n].toArray⟩ = _
  rw [q]
  simp only [List.map_cons, List.map_nil]
  rw [hu n (by omega)]
 rw [if_neg h1, if_neg h1]
 by_cases h2 : n < 2048
 ·rw [if_pos h2, if_pos h2]
  show bytesOf ⟨[UInt8.ofNat (192 + n / 64), UInt8.ofNat (128 + n % 64)].toArray⟩ = _
  rw [q]
  simp only [List.map_cons, List.map_nil]
  rw [hu _ (by omega), hu _ (by omega)]
  simp
 rw [if_neg h2, if_neg h2]
 by_cases h3 : n < 65536
 ·rw [if_pos h3, if_pos h3]
  show bytesOf ⟨[UInt8.ofNat (224 + n / 4096), UInt8.ofNat (128 + n / 64 % 64), UInt8.ofNat (128 + n % 64)].toArray⟩ = _
  rw [q]
  simp only [List.map_cons, List.map_nil]
  rw [hu _ (by omega), hu _ (by omega), hu _ (by omega)]
  simp
 rw [if_neg h3, if_neg h3]
 show bytesOf ⟨[UInt8.ofNat (240 + n / 262144), UInt8.ofNat (128 + n / 4096 % 64), UInt8.ofNat (128 + n / 64 % 64), UInt8.ofNat (128 + n % 64)].toArray⟩ = _
 rw [q]
 simp only [List.map_cons, List.map_nil]
 rw [hu _ (by omega), hu _ (by omega), hu _ (by omega), hu _ (by omega)]
 simp
theorem valid_of (n : Nat) (h : n < 55296 ∨ (57344 ≤ n ∧ n ≤ 1114111)) : Utf8.valid n = true := by
 unfold Utf8.valid
 simp
 omega
theorem list3 {a b c x y z : Int} (h1 : a = x) (h2 : b = y) (h3 : c = z) : [a, b, c] = [x, y, z] := by rw [h1, h2, h3]
theorem list4 {a b c d x y z u : Int} (h1 : a = x) (h2 : b = y) (h3 : c = z) (h4 : d = u) : [a, b, c, d] = [x, y, z, u] := by rw [h1, h2, h3, h4]
/-- At a rune's place the rune is told, and goes back into its bytes. -/
theorem dec_one (s : ByteArray) (p : Nat) (r post : List Int) (h : Rn r) (e : (bytesOf s).drop p = r ++ post) : ∃ c : Nat, Utf8.decode s p = (c, r.length) ∧ bytesOf (Utf8.encode c) = r := by
 have hb := bytes_range s
 have g : ∀ k (hk : k < r.length), p + k < s.size ∧ ((s.get! (p + k)).toNat : Int) = r[k] := fun k hk => get_is s (p + k) _ (drop_at e k hk)
 have hr : ∀ x ∈ r, 0 ≤ x ∧ x ≤ 255 := fun x hx => hb x (by
  have : x ∈ (bytesOf s).drop p := by rw [e]; simp [hx]
  exact List.mem_of_mem_drop this)
 rcases r with _ | ⟨a, _ | ⟨b, _ | ⟨c, _ | ⟨d, _ | ⟨x, t⟩⟩⟩⟩⟩
 ·exact h.elim
 ·have h : a < 128 := h
  obtain ⟨_, g0⟩ := g 0 (by simp)
  have ha := hr a (by simp)
  simp only [List.getElem_cons_zero] at g0
  refine ⟨(s.get! (p + 0)).toNat, ?_, ?_⟩
  ·unfold Utf8.decode
   simp only
   rw [if_pos (by omega)]
   rfl
  ·rw [enc_bytes _ (valid_of _ (by omega)), if_pos (by omega), g0]
 ·have h : 194 ≤ a ∧ a < 224 ∧ B2 a b := h
  obtain ⟨_, g0⟩ := g 0 (by simp)
  obtain ⟨z1, g1⟩ := g 1 (by simp)
  simp only [List.getElem_cons_zero, List.getElem_cons_succ] at g0 g1
  unfold B2 at h
  generalize hn0 : (s.get! (p + 0)).toNat = n0 at g0
  generalize hn1 : (s.get! (p + 1)).toNat = n1 at g1
  refine ⟨(n0 % 32) * 64 + n1 % 64, ?_, ?_⟩
  ·unfold Utf8.decode
   simp only [hn0, hn1]
   rw [if_neg (by omega), if_pos (by simp; omega), if_pos (by omega)]
   rfl
  ·rw [enc_bytes _ (valid_of _ (by omega)), if_neg (by omega), if_pos (by omega)]
   congr 1
   ·omega
   ·congr 1; omega
 ·have h : 224 ≤ a ∧ a < 240 ∧ B2 a b ∧ In c := h
  obtain ⟨_, g0⟩ := g 0 (by simp)
  obtain ⟨z1, g1⟩ := g 1 (by simp)
  obtain ⟨z2, g2⟩ := g 2 (by simp)
  simp only [List.getElem_cons_zero, List.getElem_cons_succ] at g0 g1 g2
  unfold B2 In at h
  generalize hn0 : (s.get! (p + 0)).toNat = n0 at g0
  generalize hn1 : (s.get! (p + 1)).toNat = n1 at g1
  generalize hn2 : (s.get! (p + 2)).toNat = n2 at g2
  have hv := valid_of ((n0 % 16) * 4096 + (n1 % 64) * 64 + n2 % 64) (by omega)
  refine ⟨(n0 % 16) * 4096 + (n1 % 64) * 64 + n2 % 64, ?_, ?_⟩
  ·unfold Utf8.decode
   simp only [hn0, hn1, hn2]
   rw [if_neg (by omega), if_neg (by simp; omega), if_pos (by simp; omega), if_pos (by rw [hv]; simp; omega)]
   rfl
  ·rw [enc_bytes _ hv, if_neg (by omega), if_neg (by omega), if_pos (by omega)]
   refine list3 ?_ ?_ ?_ <;> omega
 ·have h : 240 ≤ a ∧ a < 245 ∧ B2 a b ∧ In c ∧ In d := h
  obtain ⟨_, g0⟩ := g 0 (by simp)
  obtain ⟨z1, g1⟩ := g 1 (by simp)
  obtain ⟨z2, g2⟩ := g 2 (by simp)
  obtain ⟨z3, g3⟩ := g 3 (by simp)
  simp only [List.getElem_cons_zero, List.getElem_cons_succ] at g0 g1 g2 g3
  unfold B2 In at h
  generalize hn0 : (s.get! (p + 0)).toNat = n0 at g0
  generalize hn1 : (s.get! (p + 1)).toNat = n1 at g1
  generalize hn2 : (s.get! (p + 2)).toNat = n2 at g2
  generalize hn3 : (s.get! (p + 3)).toNat = n3 at g3
  have hv := valid_of ((n0 % 8) * 262144 + (n1 % 64) * 4096 + (n2 % 64) * 64 + n3 % 64) (by omega)
  refine ⟨(n0 % 8) * 262144 + (n1 % 64) * 4096 + (n2 % 64) * 64 + n3 % 64, ?_, ?_⟩
  ·unfold Utf8.decode
   simp only [hn0, hn1, hn2, hn3]
   rw [if_neg (by omega), if_neg (by simp; omega), if_neg (by simp; omega), if_pos (by simp; omega), if_pos (by rw [hv]; simp; omega)]
   rfl
  ·rw [enc_bytes _ hv, if_neg (by omega), if_neg (by omega), if_neg (by omega)]
   refine list4 ?_ ?_ ?_ ?_ <;> omega
 ·exact h.elim
theorem str_of {t : ByteArray} {r : List Int} (h : bytesOf t = r) : t = strOfNums r := bytes_inj (by rw [bytes_nums (fun x hx => bytes_range t x (by rw [h]; exact hx))]; exact h)
theorem str_bytes {r : List Int} (h : ∀ x ∈ r, 0 ≤ x ∧ x ≤ 255) : bytesOf (strOfNums r) = r := bytes_nums h
/-- Are all of them keys? -/
def allR (rs : List (List Int)) : Bool := rs.all fun r => rgt (strOfNums r)
theorem split_l (s : ByteArray) (hs : s.size ≤ 1000000) : ∀ (rs : List (List Int)) (p : Nat) (acc : List ByteArray), All rs → (bytesOf s).drop p = rs.flatten → p ≤ s.size → acc.length ≤ p →
  Ev (fun k => key_Split.l0 k s p acc) (if allR rs = true then (acc ++ rs.map strOfNums, 0) else ([], 9))
 | [], p, acc, _, e, hp, ha => by
  have hl : s.size ≤ p := by
   have := congrArg List.length e
   rw [List.length_drop, bytes_len] at this
   simp at this
   omega
  refine ev_off 1 ?_
  simp only [key_Split.l0]
  refine ev_neg (by omega) ?_
  have e0 : allR [] = true := rfl
  rw [if_pos e0]
  simp only [List.map_nil, List.append_nil]
  exact Ev.now _
 | r :: rs, p, acc, h, e, hp, ha => by
  have h1 := one_len h.head
  have hl : p + r.length ≤ s.size := by
   have := congrArg List.length e
   rw [List.length_drop, bytes_len, List.flatten_cons, List.length_append] at this
   omega
  have e' : (bytesOf s).drop (p + r.length) = rs.flatten := by
   rw [← List.drop_drop, e, List.flatten_cons, List.drop_left]
  obtain ⟨c, hd, he⟩ := dec_one s p r rs.flatten h.head (by rw [e]; rfl)
  have hc := str_of he
  refine ev_off 1 ?_
  simp only [key_Split.l0, hd]
  rw [hc]
  refine ev_pos (by omega) (ev_bind (right_is _ (by rw [← hc, ← bytes_len, he]; omega)) ?_)
  unfold allR
  rw [List.all_cons]
  by_cases g : rgt (strOfNums r) = true
  ·rw [g, Bool.true_and]
   have q := split_l s hs rs (p + r.length) (acc ++ [strOfNums r]) h.tail e' hl (by simp; omega)
   unfold allR at q
   rw [List.append_assoc] at q
   exact evr (ev_pos (by omega) q)
  ·simp only [Bool.not_eq_true] at g
   rw [g, Bool.false_and]
   exact ev_neg (by decide) (Ev.now _)
theorem split_yes {s : ByteArray} (hs : s.size ≤ 1000000) {rs : List (List Int)} (h : All rs) (e : bytesOf s = rs.flatten) : Ev (fun k => key_Split.f k s) (if allR rs = true then (rs.map strOfNums, 0) else ([], 9)) := by
 unfold key_Split.f
 refine ev_bind (valid_yes ⟨rs, h, e⟩) (evr ?_)
 have q := split_l s hs rs 0 [] h (by rw [List.drop_zero, e]) (by omega) (by simp)
 rw [List.nil_append] at q
 exact q
theorem split_no {s : ByteArray} (h : ¬ Val (bytesOf s)) : Ev (fun k => key_Split.f k s) ([], 5) := by
 unfold key_Split.f
 exact ev_bind (valid_no h) (ev_neg (by decide) (Ev.now _))
/-- Texts as one. -/
def glueB (l : List ByteArray) : ByteArray := ⟨(l.map (·.data.toList)).flatten.toArray⟩
theorem join_flat (xs : List (List UInt8)) : Lib.join xs [] = xs.flatten := by
 cases xs with
 | nil => rfl
 | cons x r =>
  rw [Lib.join_cons]
  unfold Lib.joinTail
  simp
theorem data_bytes (s : ByteArray) : bytesOf s = s.data.toList.map (fun b => (b.toNat : Int)) := rfl
theorem bytes_glue (l : List ByteArray) : bytesOf (glueB l) = l.flatMap bytesOf := by
 rw [data_bytes]
 show List.map _ (List.flatten _).toArray.toList = _
 simp only [List.map_flatten, List.map_map, List.flatMap]
 congr 1
theorem glue_size (l : List ByteArray) : (glueB l).size = (l.map ByteArray.size).sum := by
 rw [← bytes_len, bytes_glue, List.length_flatMap]
 congr 1
 apply List.map_congr_left
 intro s _
 exact bytes_len s
theorem nmT_size : ∀ p ∈ nmT, p.2.size ≤ 7 := by decide +kernel
theorem nam_size (s : ByteArray) (hs : s.size ≤ 4) : (nam s).size ≤ 7 := by
 unfold nam
 cases h : nmV s with
 | some x =>
  unfold nmV at h
  obtain ⟨p, hp, rfl⟩ := Option.map_eq_some_iff.1 h
  exact nmT_size p (List.mem_of_find?_eq_some hp)
 | none =>
  rw [Option.getD_none]
  split
  ·omega
  ·show (0 : Nat) ≤ 7; omega
theorem rdO {l : List ByteArray} {i : Nat} (h : i < l.length) : rdOf ByteArray.empty l (i : Int) = l[i] := by
 unfold rdOf
 rw [Int.toNat_natCast, List.getD_eq_getElem?_getD, List.getElem?_eq_getElem h]; rfl
theorem join_is (l : List ByteArray) (hl : l.length ≤ 1000000) (hs : (glueB l).size ≤ 140737488355328) : strings_Join.f l ⟨#[]⟩ = some (glueB l) := by
 unfold strings_Join.f
 have e : (⟨#[]⟩ : ByteArray).data.toList = ([] : List UInt8) := rfl
 rw [e, join_flat]
 have hz : ((l.map (·.data.toList)).flatten).length ≤ 140737488355328 := by
  have : (glueB l).size = ((l.map (·.data.toList)).flatten).length := by unfold glueB; simp [ByteArray.size]
  omega
 rw [if_pos ⟨hl, hz⟩]
 rfl
theorem sum_le (l : List ByteArray) (h : ∀ t ∈ l, t.size ≤ 7) : (l.map ByteArray.size).sum ≤ 7 * l.length := by
 induction l with
 | nil => simp
 | cons x l ih =>
  have := ih (fun t ht => h t (by simp [ht]))
  have := h x (by simp)
  simp
  omega
theorem text_l (L : List ByteArray) (hL : L.length ≤ 1000000) (h4 : ∀ t ∈ L, t.size ≤ 4) (d : Nat) : ∀ i : Nat, i + d = L.length →
  Ev (fun k => key_Text.l0 k ((L.take i).map nam ++ L.drop i) (L.length : Int) i) (glueB (L.map nam), 0) := by
 induction d with
 | zero =>
  intro i hi
  refine ev_off 1 ?_
  simp only [key_Text.l0]
  rw [List.take_of_length_le (by omega), List.drop_of_length_le (by omega), List.append_nil]
  refine ev_neg (by omega) ?_
  rw [join_is _ (by rw [List.length_map]; exact hL) (by
   rw [glue_size]
   have := sum_le (L.map nam) (fun t ht => by obtain ⟨u, hu, rfl⟩ := List.mem_map.1 ht; exact nam_size u (h4 u hu))
   rw [List.length_map] at this
   omega)]
  exact Ev.now _
 | succ d ih =>
  intro i hi
  have hlt : i < L.length := by omega
  refine ev_off 1 ?_
  have hlen : ((L.take i).map nam ++ L.drop i).length = L.length := by simp; omega
  have hget : ((L.take i).map nam ++ L.drop i)[i]'(by omega) = L[i] := by
   rw [List.getElem_append_right (by simp; omega)]
   simp [Nat.min_eq_left (Nat.le_of_lt hlt)]
  have hset : ((L.take i).map nam ++ L.drop i).set i (nam L[i]) = (L.take (i + 1)).map nam ++ L.drop (i + 1) := by
   rw [List.set_append_right _ _ (by simp; omega), List.length_map, List.length_take, Nat.min_eq_left (Nat.le_of_lt hlt), Nat.sub_self, List.drop_eq_getElem_cons hlt, List.set_cons_zero, List.take_succ_eq_append_getElem hlt, List.map_append, List.append_assoc]
   rfl
  simp only [key_Text.l0]
  rw [rdO (by omega), hget, Int.toNat_natCast]
  refine ev_pos (by omega) (ev_pos (by omega) (ev_pos (by omega) (ev_bind (name_is _ (by have := h4 _ (List.getElem_mem hlt); omega)) ?_)))
  rw [hset, wrap_id (x := (i : Int) + 1) (by omega) (by omega)]
  exact ih (i + 1) (by omega)
/-- The text of keys. -/
def txt (rs : List (List Int)) : ByteArray := glueB (rs.map fun r => nam (strOfNums r))
theorem runes_four {s : ByteArray} {rs : List (List Int)} (h : All rs) (e : bytesOf s = rs.flatten) : ∀ r ∈ rs, bytesOf (strOfNums r) = r ∧ (strOfNums r).size ≤ 4 := by
 intro r hr
 have hb : bytesOf (strOfNums r) = r := str_bytes (fun x hx => bytes_range s x (by rw [e]; exact List.mem_flatten.2 ⟨r, hr, hx⟩))
 exact ⟨hb, by rw [← bytes_len, hb]; exact (one_len (h r hr)).2⟩
theorem runes_len {s : ByteArray} {rs : List (List Int)} (h : All rs) (e : bytesOf s = rs.flatten) : rs.length ≤ s.size := by
 rw [← bytes_len, e]
 exact flat_len rs h
theorem text_yes {s : ByteArray} (hs : s.size ≤ 1000000) {rs : List (List Int)} (h : All rs) (e : bytesOf s = rs.flatten) : Ev (fun k => key_Text.f k s) (if allR rs = true then (txt rs, 0) else (⟨#[]⟩, 9)) := by
 unfold key_Text.f
 refine ev_bind (split_yes hs h e) ?_
 have hl := runes_len h e
 by_cases g : allR rs = true
 ·simp only [if_pos g]
  refine evr ?_
  have q := text_l (rs.map strOfNums) (by rw [List.length_map]; omega) (fun t ht => by obtain ⟨r, hr, rfl⟩ := List.mem_map.1 ht; exact (runes_four h e r hr).2) rs.length 0 (by simp)
  simp only [List.take_zero, List.map_nil, List.nil_append, List.drop_zero, List.map_map] at q
  exact q
 ·simp only [if_neg g]
  exact ev_neg (by decide) (Ev.now _)
theorem text_no {s : ByteArray} (h : ¬ Val (bytesOf s)) : Ev (fun k => key_Text.f k s) (⟨#[]⟩, 5) := by
 unfold key_Text.f
 exact ev_bind (split_no h) (ev_neg (by decide) (Ev.now _))
theorem nmT_low : ∀ p ∈ nmT, ∀ x ∈ bytesOf p.2, 0 ≤ x ∧ x < 128 := by decide +kernel
theorem ascii_runes : ∀ (xs : List Int) (rs : List (List Int)) (u : List Int), (∀ x ∈ xs, x < 128) → All rs → rs.flatten = xs ++ u → ∃ rs2, rs = xs.map (fun x => [x]) ++ rs2 ∧ rs2.flatten = u
 | [], rs, u, _, _, e => ⟨rs, rfl, e⟩
 | x :: xs, rs, u, hx, h, e => by
  cases rs with
  | nil => simp at e
  | cons r rs' =>
   have hr : Rn [x] := hx x (by simp)
   obtain ⟨rfl, e'⟩ := one_inj hr h.head (show [x] ++ (xs ++ u) = r ++ rs'.flatten from by simpa using e.symm)
   obtain ⟨rs2, rfl, e2⟩ := ascii_runes xs rs' u (fun y hy => hx y (by simp [hy])) h.tail e'.symm
   exact ⟨rs2, rfl, e2⟩
theorem u8_list {l m : List UInt8} (h : l.map (fun b => (b.toNat : Int)) = m.map (fun b => (b.toNat : Int))) : l = m :=
 List.map_inj_right (f := fun b : UInt8 => (b.toNat : Int)) (fun a b e => UInt8.toNat_inj.1 (by omega)) |>.1 h
theorem pre_bytes (s p : ByteArray) : Lib.hasPrefix s.data.toList p.data.toList = true ↔ ∃ u, bytesOf s = bytesOf p ++ u := by
 constructor
 ·intro h
  obtain ⟨t, ht⟩ := List.isPrefixOf_iff_prefix.1 h
  exact ⟨t.map (fun b => (b.toNat : Int)), by rw [data_bytes, data_bytes, ← ht, List.map_append]⟩
 ·rintro ⟨u, e⟩
  refine List.isPrefixOf_iff_prefix.2 ?_
  have hl : (bytesOf s).take p.data.toList.length = bytesOf p := by
   rw [e, List.take_append_of_le_length (by rw [bytes_len]; exact Nat.le_of_eq rfl), List.take_of_length_le (by rw [bytes_len]; exact Nat.le_of_eq rfl)]
  rw [data_bytes, data_bytes, ← List.map_take] at hl
  have := u8_list hl
  rw [← this]
  exact List.take_prefix _ _
theorem trim_bytes (s p : ByteArray) (u : List Int) (e : bytesOf s = bytesOf p ++ u) : bytesOf (⟨(Lib.trimPrefix s.data.toList p.data.toList).toArray⟩ : ByteArray) = u := by
 unfold Lib.trimPrefix
 rw [if_pos ((pre_bytes s p).2 ⟨u, e⟩), data_bytes]
 show List.map _ (List.drop _ _).toArray.toList = _
 rw [List.map_drop, ← data_bytes, e]
 exact List.drop_left' (by rw [bytes_len]; rfl)
theorem kn_third : ∀ p ∈ nmT, nmT.find? (fun q => (bytesOf q.2).take 3 == (bytesOf p.2).take 3) = some p ∧ 3 ≤ (bytesOf p.2).length ∧ nmV p.1 = some p.2 ∧ (∃ c, 0 ≤ c ∧ c < 128 ∧ bytesOf p.1 = [c]) := by
 intro p hp
 simp only [nmT, List.mem_cons, List.not_mem_nil, or_false] at hp
 rcases hp with rfl | rfl | rfl | rfl | rfl | rfl | rfl | rfl <;> exact ⟨by decide +kernel, by decide +kernel, by decide +kernel, _, by decide, by decide, rfl⟩
theorem kn_found {s : ByteArray} {p : ByteArray × ByteArray} (hp : p ∈ nmT) {u : List Int} (e : bytesOf s = bytesOf p.2 ++ u) : nmT.find? (fun p => Lib.hasPrefix s.data.toList p.2.data.toList) = some p := by
 have h := (pre_bytes s p.2).2 ⟨u, e⟩
 cases hf : nmT.find? (fun p => Lib.hasPrefix s.data.toList p.2.data.toList) with
 | none => exact absurd h (by have := List.find?_eq_none.1 hf p hp; simpa using this)
 | some q =>
  have h2 := List.find?_some hf
  obtain ⟨v, e2⟩ := (pre_bytes s q.2).1 (by simpa using h2)
  have hq := List.mem_of_find?_eq_some hf
  obtain ⟨a1, a2, _⟩ := kn_third p hp
  obtain ⟨b1, b2, _⟩ := kn_third q hq
  have e3 : (bytesOf p.2).take 3 = (bytesOf q.2).take 3 := by
   rw [← List.take_append_of_le_length (l₂ := u) a2, ← List.take_append_of_le_length (l₂ := v) b2, ← e, ← e2]
  rw [e3] at a1
  rw [b1] at a1
  exact a1.symm ▸ rfl
/-- What the program finds at a text's beginning. -/
theorem named_yes {t : ByteArray} {p : ByteArray × ByteArray} (hp : p ∈ nmT) {u : List Int} (e : bytesOf t = bytesOf p.2 ++ u) : Ev (fun k => key_named.f k t) (p.1, strOfNums u) := by
 have h : ∀ k, key_named.f k t = some (p.1, strOfNums u) := fun k => by
  unfold key_named.f
  rw [kn_found hp e]
  simp only
  rw [str_of (trim_bytes t p.2 u e)]
 exact ev_const h
theorem sixty {r : List Int} (h : Rn r) (h0 : r.head? = some 60) : r = [60] := by
 rcases r with _ | ⟨a, _ | ⟨b, _ | ⟨c, _ | ⟨d, _ | ⟨x, y⟩⟩⟩⟩⟩ <;> simp only [List.head?_cons, List.head?_nil, Option.some.injEq, reduceCtorEq] at h0 <;> subst_vars <;> simp [Rn] at h ⊢
theorem named_no {t : ByteArray} (ht : t.size ≤ 1000000) {r : List Int} {rs : List (List Int)} (h : All (r :: rs)) (e : bytesOf t = (r :: rs).flatten) (hn : ∀ p ∈ nmT, ¬ ∃ u, bytesOf t = bytesOf p.2 ++ u) :
  Ev (fun k => key_named.f k t) (if r = [60] then (⟨#[]⟩, ⟨#[]⟩) else if sgn (strOfNums r) = true then (strOfNums r, strOfNums rs.flatten) else (⟨#[]⟩, ⟨#[]⟩)) := by
 have hf : nmT.find? (fun p => Lib.hasPrefix t.data.toList p.2.data.toList) = none := by
  rw [List.find?_eq_none]
  intro p hp hx
  exact hn p hp ((pre_bytes t p.2).1 (by simpa using hx))
 have hk : ∀ k, key_named.f k t = key_named.t k t := fun k => by unfold key_named.f; rw [hf]
 simp only [hk]
 unfold key_named.t
 have h1 := one_len h.head
 have hl : r.length + rs.flatten.length = t.size := by rw [← bytes_len, e]; simp
 have e' : bytesOf t = r ++ rs.flatten := by rw [e]; rfl
 refine ev_bind (next_yes (by omega) h e (xs := []) (ys := rs) (r := r) (at_ := 0) ⟨rfl, rfl⟩) (ev_neg (by omega) (ev_pos (by omega) ?_))
 have hb : bt t 0 = 60 ↔ r = [60] := by
  rw [bytes_get, e']
  have : ∃ a y, r = a :: y := by cases r with | nil => exact absurd rfl (one_ne h.head) | cons a y => exact ⟨a, y, rfl⟩
  obtain ⟨a, y, rfl⟩ := this
  simp only [Int.toNat_zero, List.cons_append, List.getD_cons_zero]
  constructor
  ·rintro rfl; exact sixty h.head rfl
  ·intro q; cases q; rfl
 by_cases h60 : r = [60]
 ·rw [if_pos h60]; exact ev_pos (hb.2 h60) (Ev.now _)
 ·rw [if_neg h60]
  refine ev_neg (fun q => h60 (hb.1 q)) (ev_pos (by omega) ?_)
  have hz : (0 + (r.length : Int)).toNat = r.length := by omega
  have x1 : t.extract 0 r.length = strOfNums r := str_of (by rw [bytes_extract, e']; simp)
  have x2 : t.extract r.length t.size = strOfNums rs.flatten := str_of (by rw [bytes_drop, e']; simp)
  simp only [hz, x1, x2]
  have hs : (strOfNums r).size ≤ 4 := by rw [← x1, ← bytes_len, bytes_extract, List.length_take]; omega
  refine ev_bind (sign_is _ (by omega)) ?_
  by_cases g : sgn (strOfNums r) = true
  ·simp only [if_pos g]; exact Ev.now _
  ·simp only [if_neg g]; exact Ev.now _
theorem key_of {s x : ByteArray} (h : nmV s = some x) : (s, x) ∈ nmT := by
 unfold nmV at h
 obtain ⟨p, hp, rfl⟩ := Option.map_eq_some_iff.1 h
 have h1 := List.find?_some hp
 have h2 := List.mem_of_find?_eq_some hp
 rw [(MapKept.bytes_beq s p.1).1 h1]
 exact h2
theorem ctl : ∀ p ∈ nmT, bytesOf p.1 = [60] ∨ sgn p.1 = false := by decide +kernel
theorem sgn_rn {s : ByteArray} (g : sgn s = true) : Rn (bytesOf s) := by
 unfold sgn at g
 by_cases hr : Rn (bytesOf s)
 ·exact hr
 ·rw [if_neg hr] at g; exact absurd g (by decide)
/-- A sign that is not '<' has no other name. -/
theorem plain_key {s : ByteArray} (h : sgn s = true) (h60 : bytesOf s ≠ [60]) : nmV s = none := by
 cases hv : nmV s with
 | none => rfl
 | some x =>
  rcases ctl _ (key_of hv) with h1 | h1
  ·exact absurd h1 h60
  ·rw [h1] at h; exact absurd h (by decide)
theorem app_nil {b : ByteArray} : b ++ glueB [] = b := bytes_inj (by rw [bytes_append, bytes_glue]; simp)
theorem glue_cons (x : ByteArray) (l : List ByteArray) : glueB (x :: l) = x ++ glueB l := bytes_inj (by rw [bytes_append, bytes_glue, bytes_glue]; rfl)
theorem app_assoc (a b c : ByteArray) : a ++ b ++ c = a ++ (b ++ c) := bytes_inj (by simp only [bytes_append, List.append_assoc])
theorem txt_cons (r : List Int) (ks : List (List Int)) : txt (r :: ks) = nam (strOfNums r) ++ txt ks := by unfold txt; rw [List.map_cons, glue_cons]
theorem nil_of {t : ByteArray} (h : bytesOf t = []) : t = ⟨#[]⟩ := bytes_inj h
/-- What the program reads of a text. -/
theorem parse_l (n : Nat) : ∀ (rs : List (List Int)) (t b : ByteArray), rs.length ≤ n → All rs → bytesOf t = rs.flatten → t.size + b.size ≤ 1000000 →
  ∃ (ks : List (List Int)) (e : Int), Ev (fun k => key_Parse.l0 k t b) (if e = 0 then b ++ glueB (ks.map strOfNums) else ⟨#[]⟩, e) ∧ (e = 0 ∨ e = 3) ∧ (e = 0 → All ks ∧ allR ks = true ∧ txt ks = t ∧ ks.flatten.length ≤ t.size ∧ ∀ r ∈ ks, bytesOf (strOfNums r) = r) := by
 induction n with
 | zero =>
  intro rs t b hn h e hz
  obtain rfl : rs = [] := List.length_eq_zero_iff.1 (by omega)
  refine ⟨[], 0, ?_, Or.inl rfl, fun _ => ⟨All.nil, rfl, (nil_of e).symm, by simp, fun r hr => by simp at hr⟩⟩
  refine ev_off 1 ?_
  simp only [key_Parse.l0]
  rw [if_pos trivial, List.map_nil, app_nil]
  exact ev_pos ((toList_nil t).2 e) (Ev.now _)
 | succ n ih =>
  intro rs t b hn h e hz
  rcases rs with _ | ⟨r, rs⟩
  ·refine ⟨[], 0, ?_, Or.inl rfl, fun _ => ⟨All.nil, rfl, (nil_of e).symm, by simp, fun r hr => by simp at hr⟩⟩
   refine ev_off 1 ?_
   simp only [key_Parse.l0]
   rw [if_pos trivial, List.map_nil, app_nil]
   exact ev_pos ((toList_nil t).2 e) (Ev.now _)
  have hne : ¬ t.toList = ([] : List UInt8) := fun q => by
   rw [toList_nil, e] at q
   exact one_ne h.head (by simp at q; exact q.1)
  have h1 := one_len h.head
  have hl : r.length + rs.flatten.length = t.size := by rw [← bytes_len, e]; simp
  have stop : ∀ {x y : ByteArray}, Ev (fun k => key_named.f k t) (x, y) → x = ⟨#[]⟩ → ∃ (ks : List (List Int)) (e : Int), Ev (fun k => key_Parse.l0 k t b) (if e = 0 then b ++ glueB (ks.map strOfNums) else ⟨#[]⟩, e) ∧ (e = 0 ∨ e = 3) ∧ (e = 0 → All ks ∧ allR ks = true ∧ txt ks = t ∧ ks.flatten.length ≤ t.size ∧ ∀ r ∈ ks, bytesOf (strOfNums r) = r) := by
   intro x y q hx
   refine ⟨[], 3, ?_, Or.inr rfl, fun h => absurd h (by decide)⟩
   refine ev_off 1 ?_
   simp only [key_Parse.l0]
   rw [if_neg (by decide)]
   exact ev_neg hne (ev_bind q (ev_pos (by rw [hx]; exact (toList_nil _).2 rfl) (Ev.now _)))
  have go : ∀ {q : List Int} {rs' : List (List Int)}, Ev (fun k => key_named.f k t) (strOfNums q, strOfNums rs'.flatten) → Rn q → rgt (strOfNums q) = true → bytesOf (strOfNums q) = q → bytesOf (strOfNums rs'.flatten) = rs'.flatten → All rs' → rs'.length ≤ n → bytesOf t = bytesOf (nam (strOfNums q)) ++ rs'.flatten → q.length ≤ (nam (strOfNums q)).size →
    ∃ (ks : List (List Int)) (e : Int), Ev (fun k => key_Parse.l0 k t b) (if e = 0 then b ++ glueB (ks.map strOfNums) else ⟨#[]⟩, e) ∧ (e = 0 ∨ e = 3) ∧ (e = 0 → All ks ∧ allR ks = true ∧ txt ks = t ∧ ks.flatten.length ≤ t.size ∧ ∀ r ∈ ks, bytesOf (strOfNums r) = r) := by
   intro q rs' hq hr hg hbq hbr hA hln hbt hql
   have hz1 : (strOfNums q).size = q.length := by rw [← bytes_len, hbq]
   have hz2 : (strOfNums rs'.flatten).size = rs'.flatten.length := by rw [← bytes_len, hbr]
   have hz3 : t.size = (nam (strOfNums q)).size + rs'.flatten.length := by rw [← bytes_len, hbt, List.length_append, bytes_len]
   obtain ⟨ks, e2, p1, p2, p3⟩ := ih rs' (strOfNums rs'.flatten) (b ++ strOfNums q) hln hA hbr (by rw [ByteArray.size_append]; omega)
   refine ⟨q :: ks, e2, ?_, p2, fun h0 => ?_⟩
   ·refine ev_off 1 ?_
    simp only [key_Parse.l0]
    have hqn : ¬ (strOfNums q).toList = ([] : List UInt8) := by rw [toList_nil, hbq]; exact one_ne hr
    refine ev_neg hne (ev_bind hq (ev_neg hqn (ev_pos (by show b.size + (strOfNums q).size ≤ _; omega) ?_)))
    rw [List.map_cons, glue_cons, ← app_assoc]
    exact p1
   ·obtain ⟨a1, a2, a3, a4, a5⟩ := p3 h0
    refine ⟨All.cons hr a1, by unfold allR at *; rw [List.all_cons, hg, a2]; rfl, ?_, ?_⟩
    ·rw [txt_cons, a3]
     exact bytes_inj (by rw [bytes_append, hbr, hbt])
    ·refine ⟨by rw [List.flatten_cons, List.length_append]; omega, fun r hr => ?_⟩
     rcases List.mem_cons.1 hr with rfl | hr
     ·exact hbq
     ·exact a5 r hr
  by_cases hp : ∃ p ∈ nmT, ∃ u, bytesOf t = bytesOf p.2 ++ u
  ·obtain ⟨p, hp, u, eu⟩ := hp
   obtain ⟨a1, a2, a3, c, c0, c1, a4⟩ := kn_third p hp
   obtain ⟨rs2, er, e2⟩ := ascii_runes (bytesOf p.2) (r :: rs) u (fun x hx => (nmT_low p hp x hx).2) h (by rw [← e, eu])
   have q := named_yes hp eu
   have hA : All rs2 := by rw [er] at h; exact h.right
   have hk : p.1 = strOfNums [c] := str_of a4
   have hnm : nam p.1 = p.2 := by unfold nam; rw [a3]; rfl
   rw [hk, ← e2] at q
   refine go q (show Rn [c] from c1) ?_ (by rw [← hk, a4]) (str_bytes (fun x hx => bytes_range t x (by rw [eu, ← e2]; simp [hx]))) hA ?_ ?_ ?_
   ·unfold rgt; rw [← hk, a3]; rfl
   ·have := congrArg List.length er
    rw [List.length_append, List.length_map, List.length_cons] at this
    rw [List.length_cons] at hn
    omega
   ·rw [← hk, hnm, eu, e2]
   ·rw [← hk, hnm, ← bytes_len]; simp only [List.length_cons, List.length_nil]; omega
  ·have q := named_no (by omega) h e (fun p hp' hu => hp ⟨p, hp', hu⟩)
   by_cases h60 : r = [60]
   ·rw [if_pos h60] at q; exact stop q rfl
   rw [if_neg h60] at q
   by_cases g : sgn (strOfNums r) = true
   ·rw [if_pos g] at q
    have hbr : bytesOf (strOfNums r) = r := str_bytes (fun x hx => bytes_range t x (by rw [e]; simp [hx]))
    have hv := plain_key g (by rw [hbr]; exact h60)
    have hnm : nam (strOfNums r) = strOfNums r := by unfold nam; rw [hv, Option.getD_none, if_pos g]
    refine go q h.head ?_ hbr (str_bytes (fun x hx => bytes_range t x (by rw [e, List.flatten_cons]; simp only [List.mem_append]; exact Or.inr hx))) h.tail ?_ ?_ ?_
    ·unfold rgt; rw [g, Bool.or_true]
    ·rw [List.length_cons] at hn; omega
    ·rw [hnm, hbr, e]; rfl
    ·rw [hnm, ← bytes_len, hbr]; exact Nat.le_refl _
   ·rw [if_neg g] at q; exact stop q rfl
theorem glue_app (l m : List ByteArray) : glueB (l ++ m) = glueB l ++ glueB m := bytes_inj (by rw [bytes_append, bytes_glue, bytes_glue, bytes_glue, List.flatMap_append])
theorem glue_strs (xs : List (List Int)) (hx : ∀ r ∈ xs, bytesOf (strOfNums r) = r) : bytesOf (glueB (xs.map strOfNums)) = xs.flatten := by
 rw [bytes_glue]
 induction xs with
 | nil => rfl
 | cons r xs ih => rw [List.map_cons, List.flatMap_cons, List.flatten_cons, ih (fun r hr => hx r (by simp [hr])), hx r (by simp)]
theorem txt_size {s : ByteArray} {rs : List (List Int)} (h : All rs) (e : bytesOf s = rs.flatten) : (txt rs).size ≤ 7 * rs.length := by
 unfold txt
 rw [glue_size]
 have := sum_le (rs.map fun r => nam (strOfNums r)) (fun t ht => by obtain ⟨r, hr, rfl⟩ := List.mem_map.1 ht; exact nam_size _ (runes_four h e r hr).2)
 rw [List.length_map] at this
 exact this
/-- What a text of keys tells. -/
theorem text_or (s : ByteArray) (hs : s.size ≤ 1000000) : (∃ rs, All rs ∧ bytesOf s = rs.flatten ∧ allR rs = true ∧ Ev (fun k => key_Text.f k s) (txt rs, 0)) ∨ ∃ e : Int, e ≠ 0 ∧ Ev (fun k => key_Text.f k s) (⟨#[]⟩, e) := by
 by_cases hv : Val (bytesOf s)
 ·obtain ⟨rs, h, e⟩ := hv
  have q := text_yes hs h e
  by_cases g : allR rs = true
  ·rw [if_pos g] at q; exact .inl ⟨rs, h, e, g, q⟩
  ·rw [if_neg g] at q; exact .inr ⟨9, by decide, q⟩
 ·exact .inr ⟨5, by decide, text_no hv⟩
theorem singles (l : List Int) : (l.map fun x => [x]).flatten = l := by
 induction l with
 | nil => rfl
 | cons x l ih => simp [ih]
theorem name_runes {r : List Int} (hr : Rn r) (hb : bytesOf (strOfNums r) = r) (hg : rgt (strOfNums r) = true) : ∃ m, All m ∧ bytesOf (nam (strOfNums r)) = m.flatten := by
 unfold rgt at hg
 unfold nam
 cases hv : nmV (strOfNums r) with
 | some x =>
  refine ⟨(bytesOf x).map fun y => [y], fun q hq => ?_, by rw [singles]; rfl⟩
  obtain ⟨y, hy, rfl⟩ := List.mem_map.1 hq
  exact (nmT_low _ (key_of hv) y hy).2
 | none =>
  rw [hv, Option.isSome_none, Bool.false_or] at hg
  rw [Option.getD_none, if_pos hg]
  exact ⟨[r], All.cons hr All.nil, by simpa using hb⟩
theorem txt_runes : ∀ (ks : List (List Int)), All ks → allR ks = true → (∀ r ∈ ks, bytesOf (strOfNums r) = r) → ∃ m, All m ∧ bytesOf (txt ks) = m.flatten
 | [], _, _, _ => ⟨[], All.nil, rfl⟩
 | r :: ks, h, g, hb => by
  unfold allR at g
  rw [List.all_cons, Bool.and_eq_true] at g
  obtain ⟨m, h1, e1⟩ := name_runes h.head (hb r (by simp)) g.1
  obtain ⟨n, h2, e2⟩ := txt_runes ks h.tail g.2 (fun q hq => hb q (by simp [hq]))
  exact ⟨m ++ n, h1.append h2, by rw [txt_cons, bytes_append, e1, e2, List.flatten_append]⟩
/-- Keys' text is read as the keys. -/
theorem ptxt_l : ∀ (ks : List (List Int)) (b : ByteArray), All ks → allR ks = true → (∀ r ∈ ks, bytesOf (strOfNums r) = r) → (txt ks).size + b.size + ks.flatten.length ≤ 1000000 → Ev (fun k => key_Parse.l0 k (txt ks) b) (b ++ glueB (ks.map strOfNums), 0)
 | [], b, _, _, _, _ => by
  refine ev_off 1 ?_
  simp only [key_Parse.l0]
  rw [List.map_nil, app_nil]
  exact ev_pos ((toList_nil _).2 rfl) (Ev.now _)
 | r :: ks, b, h, g, hb, hz => by
  have g0 := g
  unfold allR at g
  rw [List.all_cons, Bool.and_eq_true] at g
  have hbr := hb r (by simp)
  have hbk := fun q (hq : q ∈ ks) => hb q (by simp [hq])
  have hz1 : (strOfNums r).size = r.length := by rw [← bytes_len, hbr]
  rw [txt_cons, ByteArray.size_append, List.flatten_cons, List.length_append] at hz
  have ih := ptxt_l ks (b ++ strOfNums r) h.tail g.2 hbk (by rw [ByteArray.size_append]; omega)
  obtain ⟨m, hm, em⟩ := txt_runes ks h.tail g.2 hbk
  have ht : bytesOf (txt (r :: ks)) = bytesOf (nam (strOfNums r)) ++ bytesOf (txt ks) := by rw [txt_cons, bytes_append]
  have hx : strOfNums (bytesOf (txt ks)) = txt ks := (str_of rfl).symm
  have hq : Ev (fun k => key_named.f k (txt (r :: ks))) (strOfNums r, txt ks) := by
   cases hv : nmV (strOfNums r) with
   | some x =>
    have hn : nam (strOfNums r) = x := by unfold nam; rw [hv]; rfl
    have q := named_yes (t := txt (r :: ks)) (key_of hv) (u := bytesOf (txt ks)) (by rw [ht, hn])
    rw [hx] at q
    exact q
   | none =>
    have hg := g.1
    unfold rgt at hg
    rw [hv, Option.isSome_none, Bool.false_or] at hg
    have hn : nam (strOfNums r) = strOfNums r := by unfold nam; rw [hv, Option.getD_none, if_pos hg]
    have h60 : r ≠ [60] := by
     rintro rfl
     have : nmV (strOfNums [60]) = some ⟨#[60, 108, 116, 62]⟩ := by decide +kernel
     rw [this] at hv
     cases hv
    have e : bytesOf (txt (r :: ks)) = (r :: m).flatten := by rw [ht, hn, hbr, em]; rfl
    have q := named_no (t := txt (r :: ks)) (rs := m) (by rw [txt_cons, ByteArray.size_append]; omega) (All.cons h.head hm) e (fun p hp ⟨u, hu⟩ => by
     apply h60
     apply sixty h.head
     have h0 : ∀ p ∈ nmT, (bytesOf p.2).head? = some 60 := by decide +kernel
     have h1 := h0 p hp
     rw [e, List.flatten_cons] at hu
     have h2 := congrArg List.head? hu
     rw [List.head?_append, List.head?_append, h1] at h2
     cases hr : r with
     | nil => exact absurd hr (one_ne h.head)
     | cons a y => rw [hr] at h2; simpa using h2)
    rw [if_neg h60, if_pos hg, ← em, hx] at q
    exact q
  refine ev_off 1 ?_
  simp only [key_Parse.l0]
  have hqn : ¬ (strOfNums r).toList = ([] : List UInt8) := by rw [toList_nil, hbr]; exact one_ne h.head
  have hne : ¬ (txt (r :: ks)).toList = ([] : List UInt8) := fun q => by
   rw [toList_nil, ht] at q
   have h1 : bytesOf (nam (strOfNums r)) = [] := List.append_eq_nil_iff.1 q |>.1
   have h2 := nam_nil (strOfNums r)
   rw [g.1, bne_iff_ne] at h2
   exact h2 ((toList_nil _).2 h1)
  refine ev_neg hne (ev_bind hq (ev_neg hqn (ev_pos (by show b.size + (strOfNums r).size ≤ _; omega) ?_)))
  rw [List.map_cons, glue_cons, ← app_assoc]
  exact ih
theorem nil_app (x : ByteArray) : (⟨#[]⟩ : ByteArray) ++ x = x := bytes_inj (by rw [bytes_append, bytes_empty, List.nil_append])
theorem parse_no {t : ByteArray} (h : ¬ Val (bytesOf t)) : Ev (fun k => key_Parse.f k t) (⟨#[]⟩, 5) := by
 unfold key_Parse.f
 exact ev_bind (valid_no h) (ev_neg (by decide) (Ev.now _))
theorem parse_yes {t : ByteArray} {rs : List (List Int)} (h : All rs) (e : bytesOf t = rs.flatten) (hz : t.size ≤ 1000000) :
  ∃ (ks : List (List Int)) (e : Int), Ev (fun k => key_Parse.f k t) (if e = 0 then glueB (ks.map strOfNums) else ⟨#[]⟩, e) ∧ (e = 0 ∨ e = 3) ∧ (e = 0 → All ks ∧ allR ks = true ∧ txt ks = t ∧ ks.flatten.length ≤ t.size ∧ ∀ r ∈ ks, bytesOf (strOfNums r) = r) := by
 obtain ⟨ks, e2, p1, p2⟩ := parse_l rs.length rs t ⟨#[]⟩ (Nat.le_refl _) h e (by show t.size + 0 ≤ _; omega)
 refine ⟨ks, e2, ?_, p2⟩
 unfold key_Parse.f
 rw [nil_app] at p1
 exact ev_bind (valid_yes ⟨rs, h, e⟩) (evr p1)
theorem parse_txt {ks : List (List Int)} (h : All ks) (g : allR ks = true) (hb : ∀ r ∈ ks, bytesOf (strOfNums r) = r) (hz : (txt ks).size + ks.flatten.length ≤ 1000000) : Ev (fun k => key_Parse.f k (txt ks)) (glueB (ks.map strOfNums), 0) := by
 unfold key_Parse.f
 obtain ⟨m, hm, em⟩ := txt_runes ks h g hb
 have q := ptxt_l ks ⟨#[]⟩ h g hb (by show _ + 0 + _ ≤ _; omega)
 rw [nil_app] at q
 exact ev_bind (valid_yes ⟨m, hm, em⟩) (evr q)
theorem rd_nat (l : List Int) (i : Nat) : rd l (i : Int) = l.getD i 0 := by unfold rd; rw [Int.toNat_natCast]
theorem cum_here (xs ys : List (List Int)) : rd (cum 0 (xs ++ ys)) (xs.length : Int) = (xs.flatten.length : Int) := by
 rw [rd_nat, cum_get]; omega
theorem cum_next (xs ys : List (List Int)) (r : List Int) : rd (cum 0 (xs ++ r :: ys)) ((xs.length : Int) + 1) = ((xs.flatten.length + r.length : Nat) : Int) := by
 have h := cum_here (xs ++ [r]) ys
 rw [List.append_assoc] at h
 simp only [List.length_append, List.length_cons, List.length_nil, List.flatten_append, List.flatten_cons, List.flatten_nil, List.append_nil] at h
 exact h
theorem piece {s : ByteArray} {xs ys : List (List Int)} {r : List Int} (e : bytesOf s = (xs ++ r :: ys).flatten) : s.extract xs.flatten.length (xs.flatten.length + r.length) = strOfNums r :=
 str_of (by rw [bytes_extract, e, List.flatten_append, List.flatten_cons, List.drop_left' rfl, Nat.add_sub_cancel_left, List.take_left' rfl])
theorem whole {s : ByteArray} {xs ys : List (List Int)} {r : List Int} (e : bytesOf s = (xs ++ r :: ys).flatten) : xs.flatten.length + r.length + ys.flatten.length = s.size := by
 rw [← bytes_len, e]; simp [Nat.add_assoc]
theorem rsplit_l {s : ByteArray} (hs : s.size ≤ 1000000) {rs : List (List Int)} (h : All rs) (e : bytesOf s = rs.flatten) : ∀ (ys xs : List (List Int)) (acc : List ByteArray), rs = xs ++ ys → acc.length ≤ xs.length →
  Ev (fun k => calamusref13_Split.l0 k s (cum 0 rs) acc (xs.length : Int)) (if allR ys = true then (acc ++ ys.map strOfNums, 0) else ([], 9))
 | [], xs, acc, er, ha => by
  have hl := runes_len h e
  have hx : rs.length = xs.length := by rw [er]; simp
  refine ev_off 1 ?_
  simp only [calamusref13_Split.l0]
  rw [wrap_id (x := (xs.length : Int) + 1) (by omega) (by omega)]
  refine ev_neg (by rw [cum_length]; omega) ?_
  rw [if_pos (show allR [] = true from rfl), List.map_nil, List.append_nil]
  exact Ev.now _
 | r :: ys, xs, acc, er, ha => by
  have hl := runes_len h e
  have hx : rs.length = xs.length + (ys.length + 1) := by rw [er]; simp
  have e' : bytesOf s = (xs ++ r :: ys).flatten := by rw [e, er]
  have hw := whole e'
  refine ev_off 1 ?_
  simp only [calamusref13_Split.l0]
  rw [wrap_id (x := (xs.length : Int) + 1) (by omega) (by omega)]
  have g0 : rd (cum 0 rs) (xs.length : Int) = (xs.flatten.length : Int) := by rw [er, cum_here]
  have g1 : rd (cum 0 rs) ((xs.length : Int) + 1) = ((xs.flatten.length + r.length : Nat) : Int) := by rw [er, cum_next]
  rw [g0, g1, Int.toNat_natCast, Int.toNat_natCast, piece e']
  refine ev_pos (by rw [cum_length]; omega) (ev_pos (by omega) (ev_pos (by rw [cum_length]; omega) (ev_pos (by omega) (ev_pos (by omega) (ev_pos (by omega) (ev_pos (by omega) (ev_bind (rright_is _) ?_)))))))
  unfold allR
  rw [List.all_cons]
  by_cases g : rgt (strOfNums r) = true
  ·rw [g, Bool.true_and]
   have q := rsplit_l hs h e ys (xs ++ [r]) (acc ++ [strOfNums r]) (by rw [er]; simp) (by simp; omega)
   unfold allR at q
   rw [List.append_assoc, List.length_append, List.length_singleton] at q
   exact evr (ev_pos (by omega) q)
  ·simp only [Bool.not_eq_true] at g
   rw [g, Bool.false_and]
   exact ev_neg (by decide) (Ev.now _)
theorem rsplit_yes {s : ByteArray} (hs : s.size ≤ 1000000) {rs : List (List Int)} (h : All rs) (e : bytesOf s = rs.flatten) : Ev (fun k => calamusref13_Split.f k s) (if allR rs = true then (rs.map strOfNums, 0) else ([], 9)) := by
 unfold calamusref13_Split.f
 have q := rsplit_l hs h e rs [] [] rfl (by simp)
 rw [List.nil_append] at q
 exact ev_bind (Go.Proofs.Ytealbonfaebikaa.KeyTextsUtf.split_yes (by omega) h e) (ev_neg (by rw [cum_length]; omega) q)
theorem rsplit_no {s : ByteArray} (hs : s.size ≤ 1000000) (h : ¬ Val (bytesOf s)) : Ev (fun k => calamusref13_Split.f k s) ([], 5) := by
 unfold calamusref13_Split.f
 exact ev_bind (Go.Proofs.Ytealbonfaebikaa.KeyTextsUtf.split_no (by omega) h) (ev_pos (by simp) (Ev.now _))
theorem rtext_l (L : List ByteArray) (hL : L.length ≤ 1000000) (h4 : ∀ t ∈ L, t.size ≤ 4) (er : Int) (d : Nat) : ∀ i : Nat, i + d = L.length →
  Ev (fun k => calamusref13_Text.l0 k L er (glueB ((L.take i).map nam)) i) (glueB (L.map nam), er) := by
 induction d with
 | zero =>
  intro i hi
  refine ev_off 1 ?_
  simp only [calamusref13_Text.l0]
  rw [List.take_of_length_le (by omega)]
  exact ev_neg (by omega) (Ev.now _)
 | succ d ih =>
  intro i hi
  have hlt : i < L.length := by omega
  refine ev_off 1 ?_
  simp only [calamusref13_Text.l0]
  rw [rdO hlt]
  have hs : (glueB ((L.take i).map nam)).size ≤ 7 * i := by
   rw [glue_size]
   have := sum_le ((L.take i).map nam) (fun t ht => by obtain ⟨u, hu, rfl⟩ := List.mem_map.1 ht; exact nam_size u (h4 u (List.mem_of_mem_take hu)))
   rw [List.length_map, List.length_take] at this
   omega
  have h7 := nam_size _ (h4 _ (List.getElem_mem hlt))
  refine ev_pos (by omega) (ev_pos (by omega) (ev_bind (rname_is _) (ev_pos (by omega) ?_)))
  rw [wrap_id (x := (i : Int) + 1) (by omega) (by omega)]
  have q := ih (i + 1) (by omega)
  rw [List.take_succ_eq_append_getElem hlt, List.map_append, glue_app] at q
  have e1 : glueB ([L[i]].map nam) = nam L[i] := bytes_inj (by rw [bytes_glue]; simp)
  rw [e1] at q
  exact q
theorem rtext_yes {s : ByteArray} (hs : s.size ≤ 1000000) {rs : List (List Int)} (h : All rs) (e : bytesOf s = rs.flatten) : Ev (fun k => calamusref13_Text.f k s) (if allR rs = true then (txt rs, 0) else (⟨#[]⟩, 9)) := by
 unfold calamusref13_Text.f
 refine ev_bind (rsplit_yes hs h e) ?_
 have hl := runes_len h e
 by_cases g : allR rs = true
 ·simp only [if_pos g]
  have q := rtext_l (rs.map strOfNums) (by rw [List.length_map]; omega) (fun t ht => by obtain ⟨r, hr, rfl⟩ := List.mem_map.1 ht; exact (runes_four h e r hr).2) 0 rs.length 0 (by simp)
  simp only [List.take_zero, List.map_nil, List.map_map] at q
  exact q
 ·simp only [if_neg g]
  have q := rtext_l [] (by simp) (fun t ht => by simp at ht) 9 0 0 rfl
  exact q
theorem rtext_no {s : ByteArray} (hs : s.size ≤ 1000000) (h : ¬ Val (bytesOf s)) : Ev (fun k => calamusref13_Text.f k s) (⟨#[]⟩, 5) := by
 unfold calamusref13_Text.f
 exact ev_bind (rsplit_no hs h) (rtext_l [] (by simp) (fun t ht => by simp at ht) 5 0 0 rfl)
theorem same_l (L : List ByteArray) (hL : L.length ≤ 1000000) (d : Nat) : ∀ i : Nat, i + d = L.length → Ev (fun k => calamusref13_Same.l0 k L L i) true := by
 induction d with
 | zero =>
  intro i hi
  refine ev_off 1 ?_
  simp only [calamusref13_Same.l0]
  exact ev_neg (by omega) (Ev.now _)
 | succ d ih =>
  intro i hi
  refine ev_off 1 ?_
  simp only [calamusref13_Same.l0]
  rw [wrap_id (x := (i : Int) + 1) (by omega) (by omega)]
  exact ev_pos (by omega) (ev_pos (by omega) (ev_pos (by omega) (evr (ih (i + 1) (by omega)))))
theorem same_is (L : List ByteArray) (hL : L.length ≤ 1000000) : Ev (fun k => calamusref13_Same.f k L L) true := by
 unfold calamusref13_Same.f
 exact evr (same_l L hL L.length 0 (by omega))
/-- Does the text begin with the name? -/
def Mq (t : ByteArray) (q : ByteArray × ByteArray) : Prop := bytesOf q.2 = (bytesOf t).take q.2.size
instance (t : ByteArray) (q : ByteArray × ByteArray) : Decidable (Mq t q) := by unfold Mq; infer_instance
theorem mq_iff (t : ByteArray) (q : ByteArray × ByteArray) : Mq t q ↔ ∃ u, bytesOf t = bytesOf q.2 ++ u := by
 unfold Mq
 constructor
 ·intro h
  refine ⟨(bytesOf t).drop q.2.size, ?_⟩
  rw [h, List.take_append_drop]
 ·rintro ⟨u, hu⟩
  rw [hu, List.take_left' (bytes_len _)]
def fin (t : ByteArray) (l : List (ByteArray × ByteArray)) (a : ByteArray × Int) : ByteArray × Int := l.foldl (fun a q => if Mq t q then (q.1, (q.2.size : Int)) else a) a
theorem fin_none (t : ByteArray) : ∀ (l : List (ByteArray × ByteArray)) (a : ByteArray × Int), (∀ q ∈ l, ¬ Mq t q) → fin t l a = a
 | [], a, _ => rfl
 | q :: l, a, h => by
  unfold fin
  rw [List.foldl_cons, if_neg (h q (by simp))]
  exact fin_none t l a (fun x hx => h x (by simp [hx]))
theorem fin_stay (t : ByteArray) (p : ByteArray × ByteArray) : ∀ (l : List (ByteArray × ByteArray)), (∀ q ∈ l, Mq t q → q = p) → fin t l (p.1, (p.2.size : Int)) = (p.1, (p.2.size : Int))
 | [], _ => rfl
 | q :: l, h => by
  unfold fin
  rw [List.foldl_cons]
  have e : (if Mq t q then (q.1, (q.2.size : Int)) else (p.1, (p.2.size : Int))) = (p.1, (p.2.size : Int)) := by
   by_cases hq : Mq t q
   ·rw [if_pos hq, h q (by simp) hq]
   ·rw [if_neg hq]
  rw [e]
  exact fin_stay t p l (fun x hx => h x (by simp [hx]))
theorem fin_some (t : ByteArray) (p : ByteArray × ByteArray) (hp : Mq t p) : ∀ (l : List (ByteArray × ByteArray)) (a : ByteArray × Int), p ∈ l → (∀ q ∈ l, Mq t q → q = p) → fin t l a = (p.1, (p.2.size : Int))
 | [], a, hm, _ => by simp at hm
 | q :: l, a, hm, h => by
  unfold fin
  rw [List.foldl_cons]
  by_cases hq : Mq t q
  ·rw [if_pos hq, h q (by simp) hq]
   exact fin_stay t p l (fun x hx => h x (by simp [hx]))
  ·rw [if_neg hq]
   have : p ∈ l := by
    rcases List.mem_cons.1 hm with rfl | hm
    ·exact absurd hp hq
    ·exact hm
   exact fin_some t p hp l a this (fun x hx => h x (by simp [hx]))
theorem nm_seven : ∀ p ∈ nmT, p.2.size ≤ 7 ∧ 1 ≤ p.2.size := by decide +kernel
theorem rnames_l {s : ByteArray} (hs : s.size ≤ 1000000) {xs ys : List (List Int)} (e : bytesOf s = (xs ++ ys).flatten) (h : All (xs ++ ys)) (b : ByteArray) (d : List (ByteArray × ByteArray)) : ∀ (c : List (ByteArray × ByteArray)) (x7 : ByteArray) (x8 : Int), nmT = c ++ d →
  ∀ (res : ByteArray × Int), Ev (fun k => if (fin (strOfNums ys.flatten) d (x7, x8)).1.toList = ([] : List UInt8) then some (⟨#[]⟩, 3) else if b.size + (fin (strOfNums ys.flatten) d (x7, x8)).1.size ≤ 9223372036854775807 then calamusref13_Parse.l0 k s (cum 0 (xs ++ ys)) (b ++ (fin (strOfNums ys.flatten) d (x7, x8)).1) (wrap64 ((xs.length : Int) + (fin (strOfNums ys.flatten) d (x7, x8)).2)) else none) res →
  Ev (fun k => calamusref13_Parse.l1 k s (cum 0 (xs ++ ys)) b (xs.length : Int) x7 x8 (nmT.map (·.1)) 8 (c.length : Int)) res := by
 have hl := runes_len h e
 have hsz : xs.flatten.length + ys.flatten.length = s.size := by rw [← bytes_len, e]; simp
 have hlen : xs.length ≤ s.size := by rw [List.length_append] at hl; omega
 have hbt : bytesOf (strOfNums ys.flatten) = ys.flatten := str_bytes (fun x hx => bytes_range s x (by rw [e, List.flatten_append]; exact List.mem_append.2 (Or.inr hx)))
 induction d with
 | nil =>
  intro c x7 x8 hc res hr
  have h8 : c.length = 8 := by have := congrArg List.length hc; rw [List.append_nil] at this; rw [← this]; rfl
  refine ev_off 1 ?_
  simp only [calamusref13_Parse.l1]
  exact ev_neg (by omega) hr
 | cons q d ih =>
  intro c x7 x8 hc res hr
  have h8 : c.length + (d.length + 1) = 8 := by have := congrArg List.length hc; rw [List.length_append, List.length_cons] at this; rw [← this]; rfl
  have hq : q ∈ nmT := by rw [hc]; simp
  obtain ⟨_, _, a3, _⟩ := kn_third q hq
  obtain ⟨m7, m1⟩ := nm_seven q hq
  have hnm : nam q.1 = q.2 := by unfold nam; rw [a3]; rfl
  have hlt : c.length < (nmT.map (·.1)).length := by rw [List.length_map, hc]; simp
  have hget : (nmT.map (·.1))[c.length] = q.1 := by
   have : (nmT.map (·.1))[c.length]? = some q.1 := by rw [hc]; simp
   rw [List.getElem?_eq_getElem hlt] at this
   exact Option.some.inj this
  have g0 : rd (cum 0 (xs ++ ys)) (xs.length : Int) = (xs.flatten.length : Int) := cum_here xs ys
  refine ev_off 1 ?_
  simp only [calamusref13_Parse.l1]
  rw [rdO hlt, hget, g0, wrap_id (x := (c.length : Int) + 1) (by omega) (by omega)]
  have hN := rname_is q.1
  rw [hnm] at hN
  have stepn : ∀ y7 y8, fin (strOfNums ys.flatten) (q :: d) (x7, x8) = fin (strOfNums ys.flatten) d (y7, y8) → Ev (fun k => calamusref13_Parse.l1 k s (cum 0 (xs ++ ys)) b (xs.length : Int) y7 y8 (nmT.map (·.1)) 8 ((c.length : Int) + 1)) res := by
   intro y7 y8 hf
   rw [hf] at hr
   have := ih (c ++ [q]) y7 y8 (by rw [hc]; simp) res hr
   rw [List.length_append, List.length_singleton] at this
   exact this
  refine ev_pos (by omega) (ev_pos (by omega) (ev_pos (by omega) (ev_bind hN (ev_pos (by omega) (ev_pos (by rw [cum_length, List.length_append]; omega) ?_)))))
  rw [wrap_id (x := (xs.flatten.length : Int) + (q.2.size : Int)) (by omega) (by omega)]
  have hx : (s.extract xs.flatten.length (xs.flatten.length + q.2.size)).toList = q.2.toList ↔ Mq (strOfNums ys.flatten) q := by
   have hE : bytesOf (s.extract xs.flatten.length (xs.flatten.length + q.2.size)) = (bytesOf (strOfNums ys.flatten)).take q.2.size := by
    rw [bytes_extract, e, List.flatten_append, List.drop_left' rfl, Nat.add_sub_cancel_left, hbt]
   rw [toList_inj]
   unfold Mq
   rw [← hE]
   constructor
   ·intro h; rw [h]
   ·intro h; exact (bytes_inj h).symm
  by_cases hz : xs.flatten.length + q.2.size ≤ s.size
  ·refine ev_pos (by omega) (ev_pos (by omega) (ev_pos (by omega) (ev_bind hN ?_)))
   have ht : ((xs.flatten.length : Int) + (q.2.size : Int)).toNat = xs.flatten.length + q.2.size := by omega
   simp only [ht, Int.toNat_natCast]
   by_cases hM : Mq (strOfNums ys.flatten) q
   ·refine ev_pos (hx.2 hM) (stepn q.1 (q.2.size : Int) ?_)
    unfold fin
    rw [List.foldl_cons, if_pos hM]
   ·refine ev_neg (fun hE => ?_) (stepn x7 x8 ?_)
    ·exact hM (hx.1 hE)
    ·unfold fin
     rw [List.foldl_cons, if_neg hM]
  ·refine ev_neg (by omega) (stepn x7 x8 ?_)
   have hM : ¬ Mq (strOfNums ys.flatten) q := by
    intro hM
    obtain ⟨u, hu⟩ := (mq_iff _ _).1 hM
    have := congrArg List.length hu
    rw [hbt, List.length_append, bytes_len] at this
    omega
   unfold fin
   rw [List.foldl_cons, if_neg hM]
/-- The program's reading and the document's tell the same. -/
theorem both_l {s : ByteArray} (hs : s.size ≤ 1000000) {rs : List (List Int)} (h : All rs) (e : bytesOf s = rs.flatten) (n : Nat) : ∀ (xs ys : List (List Int)) (b : ByteArray), ys.length ≤ n → rs = xs ++ ys → ys.flatten.length + b.size ≤ 1000000 →
  ∃ res, Ev (fun k => key_Parse.l0 k (strOfNums ys.flatten) b) res ∧ Ev (fun k => calamusref13_Parse.l0 k s (cum 0 rs) b (xs.length : Int)) res := by
 have hl := runes_len h e
 have nil_ : ∀ (xs : List (List Int)) (b : ByteArray), rs = xs ++ [] → ∃ res, Ev (fun k => key_Parse.l0 k (strOfNums ([] : List (List Int)).flatten) b) res ∧ Ev (fun k => calamusref13_Parse.l0 k s (cum 0 rs) b (xs.length : Int)) res := by
  intro xs b er
  have hx : rs.length = xs.length := by rw [er]; simp
  refine ⟨(b, 0), ?_, ?_⟩
  ·refine ev_off 1 ?_
   simp only [key_Parse.l0]
   exact ev_pos ((toList_nil _).2 rfl) (Ev.now _)
  ·refine ev_off 1 ?_
   simp only [calamusref13_Parse.l0]
   rw [wrap_id (x := ((cum 0 rs).length : Int) - 1) (by rw [cum_length]; omega) (by rw [cum_length]; omega)]
   exact ev_neg (by rw [cum_length]; omega) (Ev.now _)
 induction n with
 | zero =>
  intro xs ys b hn er hz
  obtain rfl : ys = [] := List.length_eq_zero_iff.1 (by omega)
  exact nil_ xs b er
 | succ n ih =>
  intro xs ys b hn er hz
  rcases ys with _ | ⟨r, ys⟩
  ·exact nil_ xs b er
  have hA : All (r :: ys) := by rw [er] at h; exact h.right
  have e' : bytesOf s = (xs ++ r :: ys).flatten := by rw [e, er]
  have hw := whole e'
  have hx : rs.length = xs.length + (ys.length + 1) := by rw [er]; simp
  have h1 := one_len hA.head
  have hb : ∀ l : List Int, (∀ x ∈ l, x ∈ (r :: ys).flatten) → bytesOf (strOfNums l) = l := fun l hl => str_bytes (fun x hx => bytes_range s x (by rw [e', List.flatten_append]; exact List.mem_append.2 (Or.inr (hl x hx))))
  have hbt : bytesOf (strOfNums (r :: ys).flatten) = (r :: ys).flatten := hb _ (fun x hx => hx)
  have hbr : bytesOf (strOfNums r) = r := hb r (fun x hx => by rw [List.flatten_cons]; exact List.mem_append.2 (Or.inl hx))
  have hts : (strOfNums (r :: ys).flatten).size = (r :: ys).flatten.length := by rw [← bytes_len, hbt]
  have hrs : (strOfNums r).size = r.length := by rw [← bytes_len, hbr]
  have hfl : (r :: ys).flatten.length = r.length + ys.flatten.length := by simp
  have hne : ¬ (strOfNums (r :: ys).flatten).toList = ([] : List UInt8) := fun q => by
   rw [toList_nil, hbt] at q
   have := congrArg List.length q
   rw [hfl] at this
   simp at this
   exact one_ne hA.head this.1
  have g0 : rd (cum 0 rs) (xs.length : Int) = (xs.flatten.length : Int) := by rw [er, cum_here]
  have g1 : rd (cum 0 rs) ((xs.length : Int) + 1) = ((xs.flatten.length + r.length : Nat) : Int) := by rw [er, cum_next]
  have stop : ∀ {x y : ByteArray}, Ev (fun k => key_named.f k (strOfNums (r :: ys).flatten)) (x, y) → x = ⟨#[]⟩ → Ev (fun k => key_Parse.l0 k (strOfNums (r :: ys).flatten) b) (⟨#[]⟩, 3) := by
   intro x y q hx
   refine ev_off 1 ?_
   simp only [key_Parse.l0]
   exact ev_neg hne (ev_bind q (ev_pos (by rw [hx]; exact (toList_nil _).2 rfl) (Ev.now _)))
  have goes : ∀ {x y : ByteArray} {res : ByteArray × Int}, Ev (fun k => key_named.f k (strOfNums (r :: ys).flatten)) (x, y) → bytesOf x ≠ [] → b.size + x.size ≤ 1000000 → Ev (fun k => key_Parse.l0 k y (b ++ x)) res → Ev (fun k => key_Parse.l0 k (strOfNums (r :: ys).flatten) b) res := by
   intro x y res q hx hz2 hr
   refine ev_off 1 ?_
   simp only [key_Parse.l0]
   exact ev_neg hne (ev_bind q (ev_neg (fun h0 => hx ((toList_nil _).1 h0)) (ev_pos (by show b.size + x.size ≤ _; omega) hr)))
  have rgo : ∀ {res : ByteArray × Int}, (r = [60] → Ev (fun k => calamusref13_Parse.l1 k s (cum 0 rs) b (xs.length : Int) ⟨#[]⟩ 1 (nmT.map (·.1)) 8 0) res) → (r ≠ [60] → sgn (strOfNums r) = true → Ev (fun k => calamusref13_Parse.l0 k s (cum 0 rs) (b ++ strOfNums r) ((xs.length : Int) + 1)) res) → (r ≠ [60] → ¬ sgn (strOfNums r) = true → res = (⟨#[]⟩, 3)) → Ev (fun k => calamusref13_Parse.l0 k s (cum 0 rs) b (xs.length : Int)) res := by
   intro res q1 q2 q3
   refine ev_off 1 ?_
   simp only [calamusref13_Parse.l0]
   rw [wrap_id (x := ((cum 0 rs).length : Int) - 1) (by rw [cum_length]; omega) (by rw [cum_length]; omega), wrap_id (x := (xs.length : Int) + 1) (by omega) (by omega), g0, g1, Int.toNat_natCast, Int.toNat_natCast, piece e']
   refine ev_pos (by rw [cum_length]; omega) (ev_pos (by omega) (ev_pos (by rw [cum_length]; omega) (ev_pos (by omega) (ev_pos (by rw [cum_length]; omega) (ev_pos (by omega) (ev_pos (by omega) (ev_pos (by omega) ?_)))))))
   have h60 : (strOfNums r).toList = ([60] : List UInt8) ↔ r = [60] := by
    rw [nm_list]
    constructor
    ·intro q; rw [← hbr, q]; rfl
    ·intro q; rw [q]; rfl
   by_cases c : r = [60]
   ·exact ev_pos (h60.2 c) (ev_bind (Ev.now _) (q1 c))
   ·refine ev_neg (fun q => c (h60.1 q)) (ev_bind (rsign_is _) ?_)
    by_cases g : sgn (strOfNums r) = true
    ·refine ev_pos g (ev_neg (fun q => ?_) (ev_pos (by omega) (q2 c g)))
     rw [toList_nil, hbr] at q
     exact one_ne hA.head q
    ·rw [q3 c g]
     exact ev_neg g (evr (Ev.now _))
  by_cases hp : ∃ p ∈ nmT, ∃ u, bytesOf (strOfNums (r :: ys).flatten) = bytesOf p.2 ++ u
  ·obtain ⟨p, hp, u, eu⟩ := hp
   obtain ⟨a1, a2, a3, c, c0, c1, a4⟩ := kn_third p hp
   obtain ⟨m7, m1⟩ := nm_seven p hp
   obtain ⟨rs2, er2, e2⟩ := ascii_runes (bytesOf p.2) (r :: ys) u (fun x hx => (nmT_low p hp x hx).2) hA (by rw [← hbt, eu])
   have hr60 : r = [60] := by
    have h0 : ∀ p ∈ nmT, (bytesOf p.2).head? = some 60 := by decide +kernel
    have h1 := h0 p hp
    rw [hbt, List.flatten_cons] at eu
    have h2 := congrArg List.head? eu
    rw [List.head?_append, List.head?_append, h1] at h2
    apply sixty hA.head
    cases hr : r with
    | nil => exact absurd hr (one_ne hA.head)
    | cons a y => rw [hr] at h2; simpa using h2
   have q := named_yes hp eu
   have hp1 : p.1.size = 1 := by rw [← bytes_len, a4]; rfl
   have hpl : (bytesOf p.2).length = p.2.size := bytes_len _
   have hlen2 : ys.length + 1 = p.2.size + rs2.length := by
    have := congrArg List.length er2
    rw [List.length_append, List.length_map, List.length_cons, hpl] at this
    omega
   have hfl2 : (r :: ys).flatten.length = p.2.size + rs2.flatten.length := by rw [← hbt, eu, e2, List.length_append, hpl]
   rw [← e2] at q
   have hbm : bytesOf (strOfNums rs2.flatten) = rs2.flatten := hb _ (fun x hx => by
    rw [← hbt, eu, ← e2]; exact List.mem_append.2 (Or.inr hx))
   obtain ⟨res, r1, r2⟩ := ih (xs ++ (bytesOf p.2).map fun x => [x]) rs2 (b ++ p.1) (by rw [List.length_cons] at hn; omega) (by rw [er, List.append_assoc, ← er2]) (by rw [ByteArray.size_append]; omega)
   refine ⟨res, goes q (by rw [a4]; simp) (by omega) r1, rgo (fun _ => ?_) (fun c => absurd hr60 c) (fun c => absurd hr60 c)⟩
   have hf : fin (strOfNums (r :: ys).flatten) nmT (⟨#[]⟩, 1) = (p.1, (p.2.size : Int)) := fin_some _ p ((mq_iff _ _).2 ⟨u, eu⟩) nmT _ hp (fun q hq hM => by
    obtain ⟨v, hv⟩ := (mq_iff _ _).1 hM
    have x1 := kn_found hp eu
    have x2 := kn_found hq hv
    rw [x1] at x2
    exact (Option.some.inj x2).symm)
   have key := rnames_l hs e' (by rw [← er]; exact h) b nmT [] ⟨#[]⟩ 1 rfl res (by
    rw [hf]
    refine ev_neg (fun h0 => ?_) (ev_pos (by show b.size + p.1.size ≤ _; omega) ?_)
    ·rw [toList_nil, a4] at h0; simp at h0
    ·rw [wrap_id (x := (xs.length : Int) + (p.2.size : Int)) (by omega) (by omega), ← er]
     rw [List.length_append, List.length_map, hpl] at r2
     exact r2)
   rw [← er] at key
   exact key
  ·have hnM : ∀ p ∈ nmT, ¬ ∃ u, bytesOf (strOfNums (r :: ys).flatten) = bytesOf p.2 ++ u := fun p hp' hu => hp ⟨p, hp', hu⟩
   have q := named_no (by rw [hts]; omega) hA hbt hnM
   by_cases h60 : r = [60]
   ·rw [if_pos h60] at q
    refine ⟨(⟨#[]⟩, 3), stop q rfl, rgo (fun _ => ?_) (fun c => absurd h60 c) (fun c => absurd h60 c)⟩
    have hf : fin (strOfNums (r :: ys).flatten) nmT (⟨#[]⟩, 1) = (⟨#[]⟩, 1) := fin_none _ nmT _ (fun q hq hM => hnM q hq ((mq_iff _ _).1 hM))
    have key := rnames_l hs e' (by rw [← er]; exact h) b nmT [] ⟨#[]⟩ 1 rfl (⟨#[]⟩, 3) (by
     rw [hf]
     exact ev_pos ((toList_nil _).2 rfl) (Ev.now _))
    rw [← er] at key
    exact key
   rw [if_neg h60] at q
   by_cases g : sgn (strOfNums r) = true
   ·rw [if_pos g] at q
    obtain ⟨res, r1, r2⟩ := ih (xs ++ [r]) ys (b ++ strOfNums r) (by rw [List.length_cons] at hn; omega) (by rw [er]; simp) (by rw [ByteArray.size_append]; omega)
    refine ⟨res, goes q (by rw [hbr]; exact one_ne hA.head) (by omega) r1, rgo (fun c => absurd c h60) (fun _ _ => ?_) (fun _ c => absurd g c)⟩
    rw [List.length_append, List.length_singleton] at r2
    exact r2
   ·rw [if_neg g] at q
    exact ⟨(⟨#[]⟩, 3), stop q rfl, rgo (fun c => absurd c h60) (fun _ c => absurd c g) (fun _ _ => rfl)⟩
theorem both_is {s : ByteArray} (hs : s.size ≤ 1000) : ∃ res, Ev (fun k => key_Parse.f k s) res ∧ Ev (fun k => calamusref13_Parse.f k s) res := by
 by_cases hv : Val (bytesOf s)
 ·obtain ⟨rs, h, e⟩ := hv
  obtain ⟨res, r1, r2⟩ := both_l (by omega) h e rs.length [] rs ⟨#[]⟩ (Nat.le_refl _) rfl (by rw [← e, bytes_len]; show s.size + 0 ≤ _; omega)
  refine ⟨res, ?_, ?_⟩
  ·unfold key_Parse.f
   have hx : strOfNums rs.flatten = s := by rw [← e]; exact (str_of rfl).symm
   rw [hx] at r1
   exact ev_bind (valid_yes ⟨rs, h, e⟩) (evr r1)
  ·unfold calamusref13_Parse.f
   exact ev_bind (Go.Proofs.Ytealbonfaebikaa.KeyTextsUtf.split_yes (by omega) h e) (ev_neg (by rw [cum_length]; omega) r2)
 ·refine ⟨(⟨#[]⟩, 5), parse_no hv, ?_⟩
  unfold calamusref13_Parse.f
  exact ev_bind (Go.Proofs.Ytealbonfaebikaa.KeyTextsUtf.split_no (by omega) hv) (ev_pos (by simp) (Ev.now _))
end Go.Proofs.Ytealbonfaebikaa.KeyTextsKey
