/- What an argument of plain data reads as in Lean: of whole numbers, texts, lists and structs of them. Plain law on readings. -/
import Derived.Test.YtkiokimpblimcaaWWords
import Derived.ChangeArms
import Derived.Deep.Slices
import Derived.SizedLaws
namespace Go.Proofs.Ytkiokimpblimcaa.Open
open Go.RowKit Go.Proofs.YtkiokimpblimcaaW.PrintWords

def bInt (k : IntKind) (a : Int) : Prop := (Lit.int k a).wf = true
def bStr (a : ByteArray) : Prop := a.size ≤ 140737488351232
def bBool (_ : Bool) : Prop := True
def bSl {α : Type} (n : Nat) (B : α → Prop) (l : List α) : Prop := l.length * n ≤ 140737488351232 ∧ ∀ a ∈ l, B a

/-- Whatever reads at type t is of kind d, and within its bounds. -/
def Opens {α : Type} (P : Program) (d : Kd α) (t : TypeId) (B : α → Prop) : Prop :=
  ∀ (H : Type) (enc : TypeId × Value → H) (w : World) (base : Nat) (spare : Nat → Bool) (held : Bool) (fuel : Nat) (cs : List Value) (x : DataW H × List MemPlace),
    DataW.trod enc P w base spare held fuel t cs = some x → (∀ n ∈ x.1.weights P t, n ≤ reachBytes) → ∃ a : α, d.K w a cs ∧ B a

theorem reach_is : reachBytes = 140737488351232 := rfl
theorem opens_int {P : Program} {t : TypeId} {k : IntKind} (h : P.underlying t = some (.int k)) : Opens P (Kd.int k) t (bInt k) := by
  intro H enc w base spare held fuel cs x hx _
  obtain ⟨n, rfl, _, hw⟩ := DataW.trod_int h hx
  exact ⟨n, rfl, hw⟩
theorem opens_bool {P : Program} {t : TypeId} (h : P.underlying t = some .bool) : Opens P Kd.bool t bBool := by
  intro H enc w base spare held fuel cs x hx _
  obtain ⟨b, rfl, _⟩ := DataW.trod_bool h hx
  exact ⟨b, rfl, trivial⟩
theorem opens_string {P : Program} {t : TypeId} (h : P.underlying t = some .string) : Opens P Kd.string t bStr := by
  intro H enc w base spare held fuel cs x hx hz
  obtain ⟨s, rfl, rfl, _⟩ := DataW.trod_string h hx
  refine ⟨s, rfl, ?_⟩
  have := hz s.data.toList.length (by simp [DataW.weights])
  rw [reach_is, Array.length_toList] at this
  exact this
theorem list_choose {α : Type} {p : Nat → α → Prop} (n : Nat) (h : ∀ i, i < n → ∃ a, p i a) : ∃ l : List α, l.length = n ∧ ∀ (i : Nat) (a : α), l[i]? = some a → p i a := by
  induction n with
  | zero => exact ⟨[], rfl, fun i a h => by simp at h⟩
  | succ n ih =>
    obtain ⟨l, hl, hp⟩ := ih (fun i hi => h i (by omega))
    obtain ⟨a, ha⟩ := h n (by omega)
    refine ⟨l ++ [a], by simp [hl], fun i b hb => ?_⟩
    rcases Nat.lt_or_ge i n with hi | hi
    · rw [List.getElem?_append_left (by omega)] at hb
      exact hp i b hb
    · rw [List.getElem?_append_right (by omega)] at hb
      have h0 : i - l.length = 0 := by
        rcases Nat.eq_zero_or_pos (i - l.length) with h0 | h0
        · exact h0
        · rw [List.getElem?_eq_none (by simp; omega)] at hb; cases hb
      rw [h0] at hb
      obtain rfl : a = b := by simpa using hb
      obtain rfl : i = n := by omega
      exact ha
theorem weights_all {H : Type} {P : Program} {e : TypeId} {d : DataW H} : ∀ {ds : List (DataW H)}, d ∈ ds → ∀ n ∈ d.weights P e, n ∈ DataW.weightsAll P e ds
  | [], h, _, _ => by simp at h
  | d0 :: ds, h, n, hn => by
    simp only [DataW.weightsAll, List.mem_append]
    rcases List.mem_cons.1 h with rfl | h
    · exact .inl hn
    · exact .inr (weights_all h n hn)
theorem opens_slice {α : Type} {P : Program} {d : Kd α} {t e : TypeId} {B : α → Prop} {b : Nat} (h : P.underlying t = some (.slice e)) (he : Opens P d e B) (hC : P.cellsOf e = d.sz) (hb : P.bytesOf e = b) : Opens P (Kd.slice e d) t (bSl b B) := by
  subst hb
  intro H enc w base spare held fuel cs x hx hz
  rcases Deep.open_slice h hx with ⟨rfl, rfl⟩ | ⟨a, len, cap, m, n, D, Pl, rfl, _, hl, hm, hmm, rfl, hi⟩
  · exact ⟨[], ⟨none, 0, rfl, Nat.le_refl _, ⟨rfl, Nat.zero_le _, fun h => absurd h (Nat.lt_irrefl 0)⟩⟩, by simp, fun a ha => by simp at ha⟩
  · have hlm : len ≤ m := by rw [hmm]; split <;> omega
    have hzl : (len + (m - len)) * P.bytesOf e ≤ reachBytes := hz _ (by simp [DataW.weights, h])
    obtain ⟨l, hll, hp⟩ := list_choose (p := fun i (y : α) => (∃ c, w.cells? base (a.add (i * P.cellsOf e)) (P.cellsOf e) = some c ∧ d.K w y c) ∧ B y) len (fun i hil => by
      obtain ⟨c, h1, h2⟩ := hi i (by omega)
      obtain ⟨y, hy, hB⟩ := he H enc w base spare held n c _ h2 (fun q hq => hz q (by
        simp only [DataW.weights, h, List.mem_cons, List.mem_append]
        exact .inr (.inl (weights_all (List.mem_map_of_mem (List.mem_range.2 hil)) q hq))))
      exact ⟨y, ⟨c, h1, hy⟩, hB⟩)
    refine ⟨l, ⟨some a, cap, by rw [hll], by omega, ⟨hll.symm ▸ rfl, ?_, fun _ => ⟨a, rfl, fun j p hj => ?_⟩⟩⟩, ?_, fun y hy => ?_⟩
    · unfold maxLen at hm; omega
    · obtain ⟨⟨c, h1, hy⟩, _⟩ := hp j p hj
      obtain ⟨_, h3, h4⟩ := World.cells?_some h1
      refine ⟨c, by rw [h3, hC], hy, fun i u hu => ?_⟩
      have hil : i < P.cellsOf e := by
        rcases Nat.lt_or_ge i (P.cellsOf e) with g | g
        · exact g
        · rw [List.getElem?_eq_none (by omega)] at hu; cases hu
      rw [← hC, ← Deep.add_add, h4 i hil, hu]
    · rw [hll]
      rw [reach_is] at hzl
      exact Nat.le_trans (Nat.mul_le_mul_right _ (by omega)) hzl
    · obtain ⟨j, hj⟩ := List.mem_iff_getElem?.1 hy
      exact (hp j y hj).2
/-- A struct's field. -/
theorem opens_field {α H : Type} {enc : TypeId × Value → H} {P : Program} {w : World} {base : Nat} {spare : Nat → Bool} {held : Bool} {d : Kd α} {t : TypeId} {B : α → Prop} {fs : Array Field} {n : Nat} {cs : List Value} {xs : List (DataW H × List MemPlace)} {T : TypeId}
    (hT : P.underlying T = some (.struct fs)) (i : Nat) (f : Field) (hf : fs[i]? = some f) (ht : f.type = t) (hd : Opens P d t B) (hx : DataW.trod enc P w base spare held n f.type ((cs.drop f.offset).take (P.cellsOf f.type)) = xs[i]?)
    (hl : xs.length = fs.size) (hz : ∀ q ∈ (DataW.agg (xs.map (·.1))).weights P T, q ≤ reachBytes) {o s : Nat} (ho : f.offset = o) (hs : P.cellsOf f.type = s) : ∃ a : α, d.K w a ((cs.drop o).take s) ∧ B a := by
  subst ht; subst ho; subst hs
  have hi : i < xs.length := by rw [hl]; exact (Array.getElem?_eq_some_iff.1 hf).1
  rw [List.getElem?_eq_getElem hi] at hx
  refine hd H enc w base spare held n _ _ hx (fun q hq => hz q ?_)
  simp only [DataW.weights, hT]
  refine DataW.weights_mem_each (j := i) (t := f.type) (d := (xs[i]).1) ?_ ?_ q hq
  · rw [List.getElem?_map, Array.getElem?_toList, hf]; rfl
  · rw [List.getElem?_map, List.getElem?_eq_getElem hi]; rfl
theorem pair_K {α β : Type} {d0 : Kd α} {d1 : Kd β} {w : World} {a : α} {b : β} {cs : List Value} (n : Nat) (h0 : d0.K w a (cs.take n)) (h1 : d1.K w b (cs.drop n)) : (Kd.pair d0 d1).K w (a, b) cs :=
  ⟨cs.take n, cs.drop n, (List.take_append_drop n cs).symm, h0, h1⟩
/-- Of an argument. -/
theorem opens_arg {α H : Type} {enc : TypeId × Value → H} {P : Program} {w : World} {base : Nat} {spare : Nat → Bool} {held : Bool} {d : Kd α} {t : TypeId} {B : α → Prop} {v : Value} {y : DataW H} {p : List MemPlace} (hd : Opens P d t B)
    (h : DataW.Trod enc P w base spare held t v y p) {ts : List TypeId} {ds : List (DataW H)} (hsz : (DataW.weightsEach P ts ds).all (· ≤ reachBytes) = true) {j : Nat} (ht : ts[j]? = some t) (hy : ds[j]? = some y) : ∃ a : α, d.K w a v.cells.toList ∧ B a := by
  obtain ⟨fuel, hf⟩ := h
  refine hd H enc w base spare held fuel _ _ hf (fun n hn => ?_)
  have := List.all_eq_true.1 hsz n (DataW.weights_mem_each ht hy n hn)
  simpa using this
theorem weights_arg {H : Type} {P : Program} {ts : List TypeId} {ds : List (DataW H)} (hsz : (DataW.weightsEach P ts ds).all (· ≤ reachBytes) = true) {j : Nat} {t : TypeId} {y : DataW H} (ht : ts[j]? = some t) (hy : ds[j]? = some y) : ∀ n ∈ y.weights P t, n ≤ reachBytes := by
  intro n hn
  have := List.all_eq_true.1 hsz n (DataW.weights_mem_each ht hy n hn)
  simpa using this
theorem okWide_array {P : Program} {w : World} {r : Reach} {base : Nat} {t : TypeId} {v : Value} {n : Nat} {e : TypeId} (ht : P.underlying t = some (.array n e)) (h : Value.okWide P w r base t v) : ∃ cs, v = .agg cs ∧ cs.size = P.cellsOf t := by
  simp only [Value.okWide, ht] at h
  obtain ⟨cs, h1, h2, _⟩ := h
  exact ⟨cs, h1, h2⟩
/-- An array's element, a whole number. -/
theorem array_int {H : Type} {enc : TypeId × Value → H} {P : Program} {w : World} {base : Nat} {spare : Nat → Bool} {held : Bool} {e : TypeId} {k : IntKind} {m n : Nat} {cs : List Value} {xs : List (DataW H × List MemPlace)} (he : P.underlying e = some (.int k)) (hc : P.cellsOf e = 1)
    (hl : xs.length = n) (hf : ∀ i, i < n → DataW.trod enc P w base spare held m e ((cs.drop (i * P.cellsOf e)).take (P.cellsOf e)) = xs[i]?) (i : Nat) (hi : i < n) : ∃ a : Int, (cs.drop i).take 1 = [.int k a] ∧ bInt k a := by
  have h := hf i hi
  rw [hc, Nat.mul_one, List.getElem?_eq_getElem (by omega)] at h
  obtain ⟨a, h1, _, h2⟩ := DataW.trod_int he h
  exact ⟨a, h1, h2⟩
theorem seg_ {cs a b : List Value} (n : Nat) (h0 : cs.take n = a) (h1 : cs.drop n = b) : cs = a ++ b := by rw [← h0, ← h1, List.take_append_drop]
end Go.Proofs.Ytkiokimpblimcaa.Open
