/- CodeBack: what was written is read, and what stands behind it is left, where text and list have at most 1048576 bytes and numbers. -/
import Derived.Test.YtjobaaolohemgaaCodeBackCode
namespace Go.Proofs.Ytjobaaolohemgaa.Pure
open Go.RowKit Go.Proofs.YtjobaaolohemgaaW.PrintWords Go.Proofs.YtjobaaolohemgaaW.PrintLast Go.Proofs.YtjobaaolohemgaaW.PrintMore
open Go.Proofs.Ytjobaaolohemgaa.PCodeBack Go.Proofs.Ytjobaaolohemgaa.Utf Go.Proofs.Ytjobaaolohemgaa.Open Go.Proofs.Ytjobaaolohemgaa.CodeBackCode
set_option linter.unusedVariables false

theorem lives_ : Ev (fun k => calamuslaw01_lives.f k) true := Ev.of calamuslaw01_lives.mono (k := 10) (by decide +kernel)
theorem back_l (m : List Int) (b : ByteArray) (d : Nat) : ∀ i : Nat, i + d = m.length → m.length ≤ 1048576 → Ev (fun k => calamuslaw01_CodeBack.l0 k m b m i b 0) true := by
 induction d with
 | zero =>
  intro i hi hl
  refine ev_off 1 ?_
  simp only [calamuslaw01_CodeBack.l0, code_Reader_Left.f, code_Reader_Err.f, Option.bind_some]
  exact ev_neg (by omega) (evr (evr (ev_bind lives_ (Ev.now _))))
 | succ d ih =>
  intro i hi hl
  refine ev_off 1 ?_
  simp only [calamuslaw01_CodeBack.l0]
  refine ev_pos (by omega) (ev_pos (by omega) (ev_pos (by omega) (evr ?_)))
  rw [wrap_id (by omega) (by omega)]
  exact ih (i + 1) (by omega) hl
theorem nums_size (l : List Int) (h : ∀ n ∈ l, isN n) (hl : (l.length : Int) ≤ 2147483647) : 4 ≤ (CodeBackCode.nums l).size := by
 rw [← bytes_len, CodeBackCode.nums, cat_bytes _ _ h, List.length_append, bytes_num, enc_yes ⟨by omega, hl⟩]
 simp
theorem cat_le (l : List Int) : ∀ b : ByteArray, (cat l b).size ≤ b.size + 4 * l.length := by
 induction l with
 | nil => intro b; simp [cat]
 | cons n l ih =>
  intro b
  rw [cat]
  split
  ·have := ih (b ++ num n); have := num_le n; have := size_app b (num n); rw [List.length_cons]; omega
  ·show 0 ≤ _
   omega
theorem CodeBack : calamuslaw01_CodeBack.PureUpto := by
 intro n s l b hn hs hl hb h1 h2 h3
 refine Ev.rounds (g := fun k => calamuslaw01_CodeBack.f k n s l b) ?_
 have q1 := num_le n
 have q2 := num_le s.size
 have q3 := cat_le l (num l.length)
 have q4 := num_le l.length
 have q5 : (CodeBackCode.nums l).size = (cat l (num l.length)).size := rfl
 have s1 := size_app (num s.size) s
 have s2 := size_app (num n) (num s.size ++ s)
 have s3 := size_app (num n ++ (num s.size ++ s)) (CodeBackCode.nums l)
 have s4 := size_app (num n ++ (num s.size ++ s) ++ CodeBackCode.nums l) b
 unfold calamuslaw01_CodeBack.f
 refine ev_bind (num_any _) (ev_bind (text_any s hs) (ev_bind (nums_any l (by omega)) ?_))
 rw [if_pos (by omega)]
 refine ev_pos (by omega) (ev_pos (by omega) (ev_pos (by omega) ?_))
 simp only [code_NewReader.f, Option.bind_some]
 have next : Ev (fun k => calamuslaw01_CodeBack.j0 k s l b (CodeBackCode.nums l) false (num s.size ++ (s ++ (nums l ++ b))) 0) true := by
  refine ev_off 1 ?_
  simp only [calamuslaw01_CodeBack.j0]
  refine ev_neg (by simp) (ev_bnd (rT_is _ _ _) ?_)
  rw [rT_back s (by omega)]
  refine evr ?_
  by_cases h : ∀ n ∈ l, isN n
  ·have hz := nums_size l h (by omega)
   refine ev_neg (fun e => ?_) ?_
   ·rw [toList_nil] at e
    have := bytes_len (CodeBackCode.nums l)
    rw [e] at this
    simp at this
    omega
   refine ev_bind (rNs_is _ _ _) ?_
   rw [rNs_back l b h (by omega)]
   exact evr (back_l l b l.length 0 (by omega) h2)
  ·have e : CodeBackCode.nums l = ⟨#[]⟩ := cat_no l _ h
   rw [e, app_nil]
   simp only [code_Reader_Left.f, code_Reader_Err.f, Option.bind_some]
   exact evr (evr (evr (ev_bind lives_ (Ev.now _))))
 by_cases h : isN n
 ·refine ev_neg (fun e => (num_nil n).1 e h) (ev_bnd (rN_is _ _) ?_)
  rw [app_assoc, app_assoc, app_assoc, rN_back h]
  have e : (n != n) = false := by simp
  simp only [e]
  exact next
 ·refine ev_pos ((num_nil n).2 h) ?_
  rw [num_no h, app_nil, app_assoc, app_assoc]
  exact next
end Go.Proofs.Ytjobaaolohemgaa.Pure
