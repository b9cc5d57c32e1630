/- What the printed functions of layer 1, the program's and the document's, tell: numbers, texts and lists as bytes, and readers of bytes.
  Template: Ytjobaaolohemgaa the seat's name, CodeOnce the law's key; in pieces. -/
import Derived.Test.YtjobaaolohemgaaOpen
import Derived.Test.YtjobaaolohemgaaUtf
import Derived.Test.YtjobaaolohemgaaOCodeOncex
namespace Go.Proofs.Ytjobaaolohemgaa.CodeOnceCode
open Go.RowKit Go.Proofs.YtjobaaolohemgaaW.PrintWords Go.Proofs.YtjobaaolohemgaaW.PrintLast Go.Proofs.YtjobaaolohemgaaW.PrintMore
open Go.Proofs.Ytjobaaolohemgaa.PCodeOnce Go.Proofs.Ytjobaaolohemgaa.Utf Go.Proofs.Ytjobaaolohemgaa.Open
set_option linter.unusedVariables false
set_option linter.unusedSimpArgs false

theorem wrap_id {x : Int} (h : -9223372036854775808 ≤ x) (h' : x ≤ 9223372036854775807) : wrap64 x = x := by unfold wrap64; omega
theorem ci64 {n : Int} (h : bInt .i64 n) : -9223372036854775808 ≤ n ∧ n ≤ 9223372036854775807 := by
 unfold bInt at h
 simp only [Lit.wf] at h; have := h
 simp [IntKind.min, IntKind.max, IntKind.signed, IntKind.bits] at this
 omega
theorem ev_in {α : Type} {g : Nat → Option α} {r : α} (h : Ev g r) : Ev g r := h
theorem ev_const {α : Type} {g : Nat → Option α} {r : α} (h : ∀ k, g k = some r) : Ev g r := ⟨0, fun k _ => h k⟩
theorem ev_from {α : Type} {g : Nat → Option α} {r : α} (K : Nat) (h : ∀ k, g (k + K) = some r) : Ev g r := ⟨K, fun k hk => by
 have := h (k - K); rwa [Nat.sub_add_cancel hk] at this⟩
theorem ev_off {α : Type} {g : Nat → Option α} {r : α} (K : Nat) (h : Ev (fun k => g (k + K)) r) : Ev g r := by
 obtain ⟨J, hJ⟩ := h
 exact ⟨J + K, fun k hk => by have := hJ (k - K) (by omega); simp only at this; rwa [Nat.sub_add_cancel (by omega)] at this⟩
theorem ev_bind {α β : Type} {g : Nat → Option α} {f : Nat → α → Option β} {a : α} {r : β} (h : Ev g a) (k : Ev (fun n => f n a) r) : Ev (fun n => (g n).bind (f n)) r := Ev.bind h k
theorem ev_bnd {α β : Type} {g : Option α} {f : Nat → α → Option β} {a : α} {r : β} (h : g = some a) (k : Ev (fun n => f n a) r) : Ev (fun n => g.bind (f n)) r := by subst h; exact k
theorem ev_pos {α : Type} {c : Prop} [Decidable c] {a b : Nat → Option α} {r : α} (h : c) (k : Ev a r) : Ev (fun n => if c then a n else b n) r := by
 obtain ⟨K, hK⟩ := k
 exact ⟨K, fun n hn => by simp only [if_pos h]; exact hK n hn⟩
theorem ev_neg {α : Type} {c : Prop} [Decidable c] {a b : Nat → Option α} {r : α} (h : ¬ c) (k : Ev b r) : Ev (fun n => if c then a n else b n) r := by
 obtain ⟨K, hK⟩ := k
 exact ⟨K, fun n hn => by simp only [if_neg h]; exact hK n hn⟩
theorem evr {α : Type} {c : Prop} [Decidable c] {a b : Nat → Option α} {r : α} (k : Ev a r) (h : c := by first | rfl | trivial | simp) : Ev (fun n => if c then a n else b n) r := ev_pos h k

/-- A number's bytes. -/
def enc (n : Int) : List Int := if 0 ≤ n ∧ n ≤ 2147483647 then [n % 256, n / 256 % 256, n / 65536 % 256, n / 16777216 % 256] else []
def num (n : Int) : ByteArray := strOfNums (enc n)
theorem enc_range (n : Int) : ∀ x ∈ enc n, 0 ≤ x ∧ x ≤ 255 := by
 unfold enc
 split
 ·intro x hx
  simp at hx
  omega
 ·simp
theorem bytes_num (n : Int) : bytesOf (num n) = enc n := bytes_nums (enc_range n)
theorem enc_yes {n : Int} (h : 0 ≤ n ∧ n ≤ 2147483647) : enc n = [n % 256, n / 256 % 256, n / 65536 % 256, n / 16777216 % 256] := if_pos h
theorem enc_no {n : Int} (h : ¬ (0 ≤ n ∧ n ≤ 2147483647)) : enc n = [] := if_neg h
theorem num_no {n : Int} (h : ¬ (0 ≤ n ∧ n ≤ 2147483647)) : num n = ⟨#[]⟩ := by unfold num; rw [enc_no h]; rfl
theorem num_size {n : Int} (h : 0 ≤ n ∧ n ≤ 2147483647) : (num n).size = 4 := by rw [← bytes_len, bytes_num, enc_yes h]; rfl
theorem num_le (n : Int) : (num n).size ≤ 4 := by
 by_cases h : 0 ≤ n ∧ n ≤ 2147483647
 ·rw [num_size h]; omega
 ·rw [num_no h]; decide
theorem num_nil (n : Int) : (num n).toList = ([] : List UInt8) ↔ ¬ (0 ≤ n ∧ n ≤ 2147483647) := by
 rw [toList_nil, bytes_num]
 unfold enc
 split <;> simp_all
theorem num_l (n : Int) (h : 0 ≤ n ∧ n ≤ 2147483647) : Ev (fun k => code_Num.l0 k n (List.replicate 4 0) 0) (num n) := by
 refine ev_from 5 fun k => ?_
 have e0 : shr .i64 n 0 = n := by simp [shr, IntKind.bits]
 have e1 : shr .i64 n 8 = n / 256 := by simp [shr, IntKind.bits]
 have e2 : shr .i64 n 16 = n / 65536 := by simp [shr, IntKind.bits]
 have e3 : shr .i64 n 24 = n / 16777216 := by simp [shr, IntKind.bits]
 have w0 : wrap64 (8 * 0) = 0 := wrap_id (by omega) (by omega)
 have w1 : wrap64 (8 * 1) = 8 := wrap_id (by omega) (by omega)
 have w2 : wrap64 (8 * 2) = 16 := wrap_id (by omega) (by omega)
 have w3 : wrap64 (8 * 3) = 24 := wrap_id (by omega) (by omega)
 have v0 : wrap64 (0 + 1) = 1 := wrap_id (by omega) (by omega)
 have v1 : wrap64 (1 + 1) = 2 := wrap_id (by omega) (by omega)
 have v2 : wrap64 (2 + 1) = 3 := wrap_id (by omega) (by omega)
 have v3 : wrap64 (3 + 1) = 4 := wrap_id (by omega) (by omega)
 rw [code_Num.l0, if_pos (by decide), w0, if_pos (by decide), if_pos (by decide), if_pos (by simp), e0, v0]
 rw [code_Num.l0, if_pos (by decide), w1, if_pos (by decide), if_pos (by decide), if_pos (by simp), e1, v1]
 rw [code_Num.l0, if_pos (by decide), w2, if_pos (by decide), if_pos (by decide), if_pos (by simp), e2, v2]
 rw [code_Num.l0, if_pos (by decide), w3, if_pos (by decide), if_pos (by decide), if_pos (by simp), e3, v3]
 rw [code_Num.l0, if_neg (by decide)]
 unfold num
 rw [enc_yes h]
 rfl
theorem num_any (n : Int) : Ev (fun k => code_Num.f k n) (num n) := by
 unfold code_Num.f
 by_cases h0 : n < 0
 ·refine ev_pos h0 (ev_from 1 fun k => ?_)
  rw [code_Num.j0, if_pos rfl, num_no (by omega)]
 ·refine ev_neg h0 ?_
  by_cases h1 : n > 2147483647
  ·refine ev_from 1 fun k => ?_
   rw [code_Num.j0, if_pos (decide_eq_true h1), num_no (by omega)]
  ·refine ev_off 1 ?_
   simp only [code_Num.j0]
   rw [decide_eq_false h1]
   exact ev_neg (by simp) (ev_pos (by decide) (num_l n (by omega)))
theorem text_any (s : ByteArray) (hs : s.size ≤ 140737488351232) : Ev (fun k => code_Text.f k s) (if (s.size : Int) ≤ 2147483647 then num s.size ++ s else ⟨#[]⟩) := by
 unfold code_Text.f
 by_cases h : (s.size : Int) > 2147483647
 ·rw [if_neg (by omega)]
  exact ev_pos h (Ev.now _)
 ·rw [if_pos (by omega)]
  refine ev_neg h (ev_bind (num_any _) (ev_pos ?_ (Ev.now _)))
  have := num_le s.size
  omega
theorem rd_get {l : List Int} {i : Nat} (h : i < l.length) : rd l (i : Int) = l[i] := by
 unfold rd
 rw [Int.toNat_natCast, List.getD_eq_getElem?_getD, List.getElem?_eq_getElem h]; rfl
def isN (n : Int) : Prop := 0 ≤ n ∧ n ≤ 2147483647
instance (n : Int) : Decidable (isN n) := by unfold isN; infer_instance
def cat : List Int → ByteArray → ByteArray
 | [], b => b
 | n :: l, b => if isN n then cat l (b ++ num n) else ⟨#[]⟩
theorem cat_bytes : ∀ (l : List Int) (b : ByteArray), (∀ n ∈ l, isN n) → bytesOf (cat l b) = bytesOf b ++ l.flatMap enc
 | [], b, _ => by simp [cat]
 | n :: l, b, h => by
  rw [cat, if_pos (h n (by simp)), cat_bytes l _ (fun m hm => h m (by simp [hm])), bytes_append, bytes_num, List.flatMap_cons, List.append_assoc]
theorem cat_no : ∀ (l : List Int) (b : ByteArray), ¬ (∀ n ∈ l, isN n) → cat l b = ⟨#[]⟩
 | [], b, h => absurd (fun n hn => by simp at hn) h
 | n :: l, b, h => by
  rw [cat]
  by_cases g : isN n
  ·rw [if_pos g]
   exact cat_no l _ (fun h' => h fun m hm => by rcases List.mem_cons.1 hm with rfl | hm; exact g; exact h' m hm)
  ·rw [if_neg g]
def nums (l : List Int) : ByteArray := cat l (num l.length)
theorem nums_l (l : List Int) (hl : l.length ≤ 17592186043904) (d : Nat) : ∀ (i : Nat) (b : ByteArray), i + d = l.length → b.size ≤ 4 * (i + 1) →
  Ev (fun k => code_Nums.l0 k l b i) (cat (l.drop i) b) := by
 induction d with
 | zero =>
  intro i b hi hb
  refine ev_off 1 ?_
  simp only [code_Nums.l0]
  rw [List.drop_of_length_le (by omega)]
  exact ev_neg (by omega) (Ev.now _)
 | succ d ih =>
  intro i b hi hb
  have hlt : i < l.length := by omega
  refine ev_off 1 ?_
  simp only [code_Nums.l0]
  refine ev_pos (by omega) (ev_pos (by omega) (ev_bind (a := num l[i]) (by rw [rd_get hlt]; exact ev_in (num_any _)) ?_))
  rw [List.drop_eq_getElem_cons hlt, cat]
  by_cases hn : isN l[i]
  ·refine ev_neg (fun h => (num_nil _).1 h hn) ?_
   have h4 := num_le l[i]
   refine ev_pos (by omega) ?_
   rw [wrap_id (by omega) (by omega), if_pos hn]
   exact ih (i + 1) (b ++ num l[i]) (by omega) (by rw [ByteArray.size_append]; omega)
  ·rw [if_neg hn]
   exact ev_pos ((num_nil _).2 hn) (Ev.now _)
theorem nums_any (l : List Int) (hl : l.length ≤ 17592186043904) : Ev (fun k => code_Nums.f k l) (nums l) := by
 unfold code_Nums.f
 have h4 := num_le (l.length : Int)
 refine ev_bind (num_any _) (ev_pos (by omega) ?_)
 exact nums_l l hl l.length 0 (num l.length) (by omega) (by omega)
theorem size_app (a b : ByteArray) : (a ++ b).size = a.size + b.size := ByteArray.size_append
theorem ext_all {s : ByteArray} {n : Nat} (h : n = s.size) : s.extract 0 n = s := by subst h; exact bytes_inj (by rw [bytes_extract]; simp [List.take_of_length_le, bytes_len])
theorem ext_front (a b : ByteArray) : (a ++ b).extract 0 a.size = a := bytes_inj (by rw [bytes_extract, bytes_append, ← bytes_len a]; simp)
theorem ext_back (a b : ByteArray) : (a ++ b).extract a.size (a ++ b).size = b := bytes_inj (by rw [bytes_drop, bytes_append, ← bytes_len a]; simp)
theorem app_assoc (a b c : ByteArray) : (a ++ b) ++ c = a ++ (b ++ c) := bytes_inj (by simp [bytes_append])
theorem app_nil (a : ByteArray) : (⟨#[]⟩ : ByteArray) ++ a = a := bytes_inj (by rw [bytes_append]; rfl)
theorem num4_num (n : Int) (h : 0 ≤ n ∧ n ≤ 2147483647) (s : ByteArray) : num4 ((num n ++ s).extract 0 4) = n := by
 rw [← num_size h, ext_front]
 unfold num4
 rw [bytes_get, bytes_get, bytes_get, bytes_get, bytes_num, enc_yes h]
 simp
 omega
/-- What a reader tells, and leaves. -/
def rN (s : ByteArray) (e : Int) : Int × ByteArray × Int := if e = 0 then (if s.size < 4 then (0, ⟨#[]⟩, 2) else if num4 (s.extract 0 4) > 2147483647 then (0, ⟨#[]⟩, 6) else (num4 (s.extract 0 4), s.extract 4 s.size, 0)) else (0, s, e)
theorem ext_size (s : ByteArray) (a b : Nat) : (s.extract a b).size = min b s.size - a := ByteArray.size_extract
theorem rN_is (s : ByteArray) (e : Int) : code_Reader_Num.f s e = some (rN s e) := by
 unfold code_Reader_Num.f code_Reader_take.f code_Reader_fail.f rN
 by_cases h : e = 0
 ·subst h
  simp only [if_true]
  by_cases h4 : s.size < 4
  ·rw [if_pos (by omega), if_pos h4]
   simp
  ·rw [if_neg (by omega), if_neg h4, if_pos (by decide), if_pos (by omega)]
   have e4 : (Int.toNat 4) = 4 := rfl
   simp only [Option.bind_some, if_true, e4]
   rw [if_pos (by rw [ext_size]; omega)]
   split <;> rfl
 ·rw [if_neg h, if_neg h]
  simp
theorem rN_back {n : Int} (h : 0 ≤ n ∧ n ≤ 2147483647) (s : ByteArray) : rN (num n ++ s) 0 = (n, s, 0) := by
 have h4 := num_size h
 unfold rN
 rw [if_pos rfl, if_neg (by rw [size_app]; omega), num4_num n h, if_neg (by omega), ← h4, ext_back]
def rM (s : ByteArray) (e m : Int) : Int × Bool × ByteArray × Int :=
 let x := rN s e
 if x.2.2 = 0 then (if x.1 > m then (x.1, false, ⟨#[]⟩, 6) else (x.1, true, x.2.1, 0)) else (x.1, false, x.2.1, x.2.2)
theorem rM_is (s : ByteArray) (e m : Int) : code_Reader_most.f s e m = some (rM s e m) := by
 unfold code_Reader_most.f rM
 rw [rN_is]
 simp only [Option.bind_some]
 by_cases h : (rN s e).2.2 = 0
 ·rw [if_pos h, if_pos h]
  split
  ·unfold code_Reader_fail.f
   rw [h]; simp
  ·rw [h]; simp
 ·rw [if_neg h, if_neg h]
  simp [h]
theorem rM_back {n m : Int} (h : 0 ≤ n ∧ n ≤ 2147483647) (hm : n ≤ m) (s : ByteArray) : rM (num n ++ s) 0 m = (n, true, s, 0) := by
 unfold rM
 rw [rN_back h]
 simp only [if_true]
 rw [if_neg (by omega)]
def rT (s : ByteArray) (e m : Int) : ByteArray × ByteArray × Int :=
 let x := rM s e m
 if x.2.1 = true then (if x.1 > (x.2.2.1.size : Int) then (⟨#[]⟩, ⟨#[]⟩, 2) else (x.2.2.1.extract 0 x.1.toNat, x.2.2.1.extract x.1.toNat x.2.2.1.size, 0)) else (⟨#[]⟩, x.2.2.1, x.2.2.2)
theorem rM_yes {s : ByteArray} {e m : Int} (h : (rM s e m).2.1 = true) : (rM s e m).2.2.2 = 0 ∧ 0 ≤ (rM s e m).1 ∧ (rM s e m).1 ≤ m ∧ (rM s e m).1 ≤ 2147483647 := by
 have hr : 0 ≤ num4 (s.extract 0 4) := by
  unfold num4
  have := bt_range (s.extract 0 4) 0
  have := bt_range (s.extract 0 4) 1
  have := bt_range (s.extract 0 4) 2
  have := bt_range (s.extract 0 4) 3
  omega
 unfold rM rN at *
 simp only at *
 split at h <;> simp_all
 split at h <;> simp_all
 repeat' split
 all_goals simp_all
 all_goals omega
theorem rT_is (s : ByteArray) (e m : Int) : code_Reader_Text.f s e m = some (rT s e m) := by
 unfold code_Reader_Text.f rT
 rw [rM_is]
 simp only [Option.bind_some]
 by_cases h : (rM s e m).2.1 = true
 ·obtain ⟨h0, h1, _, _⟩ := rM_yes h
  rw [if_pos h, if_pos h]
  unfold code_Reader_take.f code_Reader_fail.f
  rw [h0]
  simp only [if_true]
  split
  ·rfl
  ·first | rw [if_pos h1, if_pos (by omega)] | rw [if_pos (by omega)]
   rfl
 ·rw [if_neg h, if_neg h]
theorem rT_back (t : ByteArray) (h : (t.size : Int) ≤ 2147483647) (s : ByteArray) : rT (num t.size ++ (t ++ s)) 0 t.size = (t, s, 0) := by
 unfold rT
 rw [rM_back ⟨by omega, h⟩ (Int.le_refl _)]
 simp only [if_true]
 rw [if_neg (by rw [size_app]; omega), Int.toNat_natCast, ext_front, ext_back]
/-- A list that is read, number by number, of so many yet. -/
def rL : Nat → List Int → ByteArray → Int → List Int × ByteArray × Int
 | 0, l, s, e => if e = 0 then (l, s, 0) else ([], s, e)
 | n + 1, l, s, e => if e = 0 then rL n (l ++ [(rN s e).1]) (rN s e).2.1 (rN s e).2.2 else ([], s, e)
theorem rL_no (n : Nat) (l : List Int) (s : ByteArray) (e : Int) (h : e ≠ 0) : rL n l s e = ([], s, e) := by
 cases n <;> simp [rL, h]
theorem rN_err {s : ByteArray} (h : (rN s 0).2.2 ≠ 0) : (rN s 0).2.1 = ⟨#[]⟩ := by
 unfold rN at *
 rw [if_pos rfl] at *
 by_cases a : s.size < 4
 ·rw [if_pos a]
 ·rw [if_neg a] at *
  by_cases b : num4 (s.extract 0 4) > 2147483647
  ·rw [if_pos b]
  ·rw [if_neg b] at h; exact absurd rfl h
theorem rL_is (x5 : Int) (hx : x5 ≤ 17592186043904) (d : Nat) : ∀ (i : Nat) (l : List Int) (s : ByteArray) (e : Int), (i : Int) + d = x5 → l.length = i → Ev (fun k => code_Reader_Nums.l0 k x5 l i s e) (rL d l s e) := by
 induction d with
 | zero =>
  intro i l s e hi hl
  refine ev_off 1 ?_
  simp only [code_Reader_Nums.l0, rL]
  refine ev_neg (by omega) ?_
  by_cases h : e = 0
  ·subst h; exact ev_pos rfl (Ev.now _)
  ·simp only [if_neg h]; exact Ev.now _
 | succ d ih =>
  intro i l s e hi hl
  refine ev_off 1 ?_
  simp only [code_Reader_Nums.l0, rL]
  refine ev_pos (by omega) ?_
  by_cases h : e = 0
  ·rw [if_pos h]
   refine ev_pos h (ev_bnd (rN_is s e) (ev_pos (by omega) ?_))
   rw [wrap_id (by omega) (by omega)]
   exact ih (i + 1) _ _ _ (by omega) (by simp [hl])
  ·rw [if_neg h]
   exact ev_neg h (Ev.now _)
def rNs (s : ByteArray) (e m : Int) : List Int × ByteArray × Int :=
 let x := rM s e m
 if x.2.1 = true then rL x.1.toNat [] x.2.2.1 x.2.2.2 else ([], x.2.2.1, x.2.2.2)
theorem rNs_is (s : ByteArray) (e m : Int) : Ev (fun k => code_Reader_Nums.f k s e m) (rNs s e m) := by
 unfold code_Reader_Nums.f rNs
 refine ev_bnd (rM_is s e m) ?_
 by_cases h : (rM s e m).2.1 = true
 ·obtain ⟨h0, h1, _, h3⟩ := rM_yes h
  simp only
  rw [if_pos h]
  exact ev_pos h (rL_is _ (by omega) _ 0 [] _ _ (by omega) rfl)
 ·simp only
  rw [if_neg h]
  exact ev_neg h (Ev.now _)
theorem rL_back (m : List Int) : ∀ (l : List Int) (s : ByteArray) (r : ByteArray), (∀ n ∈ m, isN n) → bytesOf s = m.flatMap enc ++ bytesOf r → rL m.length l s 0 = (l ++ m, r, 0) := by
 induction m with
 | nil => intro l s r _ e; obtain rfl := bytes_inj (s := s) (t := r) (by simpa using e); simp [rL]
 | cons n m ih =>
  intro l s r h e
  have hn := h n (by simp)
  obtain ⟨s', rfl⟩ : ∃ s', s = num n ++ s' := ⟨strOfNums (m.flatMap enc ++ bytesOf r), bytes_inj (by
   rw [e, bytes_append, bytes_num, bytes_nums (fun x hx => ?_), List.flatMap_cons, List.append_assoc]
   rcases List.mem_append.1 hx with hx | hx
   ·obtain ⟨y, _, hy⟩ := List.mem_flatMap.1 hx; exact enc_range y x hy
   ·exact bytes_range r x hx)⟩
  rw [List.length_cons, rL, if_pos rfl, rN_back hn]
  simp only
  rw [ih (l ++ [n]) s' r (fun x hx => h x (by simp [hx])) (by
   rw [bytes_append, bytes_num, List.flatMap_cons, List.append_assoc] at e
   exact List.append_cancel_left e)]
  simp
theorem rNs_back (m : List Int) (s : ByteArray) (h : ∀ n ∈ m, isN n) (hl : (m.length : Int) ≤ 2147483647) : rNs (nums m ++ s) 0 m.length = (m, s, 0) := by
 have e : bytesOf (nums m ++ s) = enc m.length ++ (m.flatMap enc ++ bytesOf s) := by rw [bytes_append, nums, cat_bytes m _ h, bytes_num, List.append_assoc]
 obtain ⟨s', hs'⟩ : ∃ s', nums m ++ s = num m.length ++ s' := ⟨strOfNums (m.flatMap enc ++ bytesOf s), bytes_inj (by
  rw [e, bytes_append, bytes_num, bytes_nums (fun x hx => ?_)]
  rcases List.mem_append.1 hx with hx | hx
  ·obtain ⟨y, _, hy⟩ := List.mem_flatMap.1 hx; exact enc_range y x hy
  ·exact bytes_range s x hx)⟩
 unfold rNs
 rw [hs', rM_back ⟨by omega, hl⟩ (Int.le_refl _)]
 simp only [if_true]
 rw [Int.toNat_natCast, rL_back m [] s' s h (by
  rw [hs', bytes_append, bytes_num] at e
  exact List.append_cancel_left e)]
 simp
theorem bt_cut (s : ByteArray) (n : Nat) (i : Nat) (h : i < n) : bt (s.extract 0 n) i = bt s i := by
 rw [bytes_get, bytes_get, bytes_extract]
 simp only [List.drop_zero, Nat.sub_zero, List.getD_eq_getElem?_getD, List.getElem?_take, Int.toNat_natCast, if_pos h]
theorem num4_cut (s : ByteArray) : num4 (s.extract 0 4) = bt s 0 + 256 * bt s 1 + 65536 * bt s 2 + 16777216 * bt s 3 := by
 unfold num4
 have h0 := bt_cut s 4 0 (by omega)
 have h1 := bt_cut s 4 1 (by omega)
 have h2 := bt_cut s 4 2 (by omega)
 have h3 := bt_cut s 4 3 (by omega)
 rw [show bt (s.extract 0 4) 0 = bt s 0 from h0, show bt (s.extract 0 4) 1 = bt s 1 from h1, show bt (s.extract 0 4) 2 = bt s 2 from h2, show bt (s.extract 0 4) 3 = bt s 3 from h3]
theorem w4 (s : ByteArray) : wrap64 ((wrap64 ((wrap64 ((wrap64 (bt s 0)) + (wrap64 (256 * (wrap64 (bt s 1)))))) + (wrap64 (65536 * (wrap64 (bt s 2)))))) + (wrap64 (16777216 * (wrap64 (bt s 3))))) = num4 (s.extract 0 4) := by
 have b0 := bt_range s 0
 have b1 := bt_range s 1
 have b2 := bt_range s 2
 have b3 := bt_range s 3
 rw [num4_cut, wrap_id (x := bt s 0) (by omega) (by omega), wrap_id (x := bt s 1) (by omega) (by omega), wrap_id (x := bt s 2) (by omega) (by omega), wrap_id (x := bt s 3) (by omega) (by omega)]
 rw [wrap_id (x := 256 * bt s 1) (by omega) (by omega), wrap_id (x := 65536 * bt s 2) (by omega) (by omega), wrap_id (x := 16777216 * bt s 3) (by omega) (by omega)]
 rw [wrap_id (x := bt s 0 + 256 * bt s 1) (by omega) (by omega), wrap_id (x := _ + 65536 * bt s 2) (by omega) (by omega), wrap_id (x := _ + 16777216 * bt s 3) (by omega) (by omega)]
theorem num4_range (s : ByteArray) : 0 ≤ num4 s ∧ num4 s ≤ 4294967295 := by
 unfold num4
 have := bt_range s 0
 have := bt_range s 1
 have := bt_range s 2
 have := bt_range s 3
 omega
theorem ext2 (s : ByteArray) (a b c d : Nat) (h : a + d ≤ b) : (s.extract a b).extract c d = s.extract (a + c) (a + d) := by
 apply bytes_inj
 rw [bytes_extract, bytes_extract, bytes_extract, List.drop_take, List.drop_drop, List.take_take]
 congr 1
 omega
theorem ext_cat (s : ByteArray) (a b c : Nat) (h : a ≤ b) (h' : b ≤ c) : s.extract a b ++ s.extract b c = s.extract a c := by
 apply bytes_inj
 rw [bytes_append, bytes_extract, bytes_extract, bytes_extract]
 have e : (bytesOf s).drop b = ((bytesOf s).drop a).drop (b - a) := by rw [List.drop_drop]; congr 1; omega
 rw [e, show c - a = (b - a) + (c - b) by omega, List.take_add]
theorem bt_ext (s : ByteArray) (a b : Nat) (i : Nat) (h : a + i < b) : bt (s.extract a b) i = bt s (a + i : Nat) := by
 rw [bytes_get, bytes_get, bytes_extract]
 simp only [List.getD_eq_getElem?_getD, List.getElem?_take, Int.toNat_natCast, List.getElem?_drop]
 rw [if_pos (by omega)]
/-- Two numbers that are read, one behind the other. -/
theorem rN_two (Q : ByteArray) (h : 8 ≤ Q.size) :
  (num4 (Q.extract 0 4) ≤ 2147483647 ∧ num4 (Q.extract 4 8) ≤ 2147483647 ∧ (rN Q 0).1 = num4 (Q.extract 0 4) ∧ (rN (rN Q 0).2.1 (rN Q 0).2.2).1 = num4 (Q.extract 4 8) ∧ (rN (rN Q 0).2.1 (rN Q 0).2.2).2.2 = 0 ∧ (rN (rN Q 0).2.1 (rN Q 0).2.2).2.1 = Q.extract 8 Q.size)
  ∨ (¬ (num4 (Q.extract 0 4) ≤ 2147483647 ∧ num4 (Q.extract 4 8) ≤ 2147483647) ∧ (rN (rN Q 0).2.1 (rN Q 0).2.2).2.2 = 6 ∧ (rN (rN Q 0).2.1 (rN Q 0).2.2).2.1 = ⟨#[]⟩) := by
 have e1 : (Q.extract 4 Q.size).extract 0 4 = Q.extract 4 8 := ext2 Q 4 Q.size 0 4 (by omega)
 have e2 : (Q.extract 4 Q.size).size = Q.size - 4 := by rw [ext_size]; omega
 have e3 : (Q.extract 4 Q.size).extract 4 (Q.extract 4 Q.size).size = Q.extract 8 Q.size := by
  rw [e2, ext2 Q 4 Q.size 4 (Q.size - 4) (by omega)]; congr 1; omega
 by_cases hA : num4 (Q.extract 0 4) > 2147483647
 ·refine .inr ⟨by omega, ?_⟩
  have q : rN Q 0 = (0, (⟨#[]⟩ : ByteArray), (6 : Int)) := by unfold rN; rw [if_pos rfl, if_neg (by omega), if_pos hA]
  rw [q]
  unfold rN
  simp
 ·have q : rN Q 0 = (num4 (Q.extract 0 4), Q.extract 4 Q.size, (0 : Int)) := by unfold rN; rw [if_pos rfl, if_neg (by omega), if_neg hA]
  rw [q]
  by_cases hB : num4 (Q.extract 4 8) > 2147483647
  ·refine .inr ⟨by omega, ?_⟩
   unfold rN
   simp only [if_true, e1, e2, e3]
   rw [if_neg (by omega), if_pos hB]
   simp
  ·refine .inl ⟨by omega, by omega, rfl, ?_⟩
   unfold rN
   simp only [if_true, e1, e2, e3]
   rw [if_neg (by omega), if_neg hB, ← e2, e3]
   simp
theorem rL_len (n : Nat) : ∀ (l : List Int) (s : ByteArray) (e : Int), (rL n l s e).1.length ≤ l.length + n := by
 induction n with
 | zero => intro l s e; unfold rL; split <;> simp
 | succ n ih =>
  intro l s e
  unfold rL
  split
  ·have := ih (l ++ [(rN s e).1]) (rN s e).2.1 (rN s e).2.2
   rw [List.length_append, List.length_cons, List.length_nil] at this
   omega
  ·simp
theorem rNs_len (s : ByteArray) (e m : Int) : (rNs s e m).1.length ≤ 2147483647 := by
 unfold rNs
 simp only
 split
 ·rename_i h
  obtain ⟨_, h1, _, h3⟩ := rM_yes h
  have := rL_len (rM s e m).1.toNat [] (rM s e m).2.2.1 (rM s e m).2.2.2
  rw [List.length_nil] at this
  omega
 ·simp
end Go.Proofs.Ytjobaaolohemgaa.CodeOnceCode
