/- CodeOnce: of what is read the bytes are those that were there; nobody reads nothing. -/
import Derived.Test.YtjobaaolohemgaaCodeOnceCode
namespace Go.Proofs.Ytjobaaolohemgaa.Pure
open Go.RowKit Go.Proofs.YtjobaaolohemgaaW.PrintWords Go.Proofs.YtjobaaolohemgaaW.PrintLast Go.Proofs.YtjobaaolohemgaaW.PrintMore
open Go.Proofs.Ytjobaaolohemgaa.PCodeOnce Go.Proofs.Ytjobaaolohemgaa.Utf Go.Proofs.Ytjobaaolohemgaa.Open Go.Proofs.Ytjobaaolohemgaa.CodeOnceCode
set_option linter.unusedVariables false

theorem lives_ : Ev (fun k => calamuslaw01_lives.f k) true := Ev.of calamuslaw01_lives.mono (k := 10) (by decide +kernel)
theorem bne_self (s : ByteArray) : (s.toList != s.toList) = false := by simp
theorem j1_is (m : Int) : Ev (fun k => calamuslaw01_CodeOnce.j1 k m false) true := by
 refine ev_off 1 ?_
 simp only [calamuslaw01_CodeOnce.j1, code_Reader_Num_nil.f, code_Reader_Text_nil.f, code_Reader_Nums_nil.f, code_Reader_Left_nil.f, code_Reader_Err_nil.f, code_Reader_Left.f, code_Reader_Err.f, Option.bind_some, rN_is]
 refine ev_neg (by simp) (evr (evr (evr (evr (evr (evr ?_))))))
 exact evr (evr (ev_bind lives_ (Ev.now _)))
theorem j0_is (s : ByteArray) (m a : Int) (b : ByteArray) (c : List Int) (s1 s2 s3 : ByteArray) (e1 e2 e3 : Int) (hs : s.size ≤ 140737488351232) (z1 : s1.size ≤ s.size) (z2 : s2.size ≤ s.size) (z3 : s3.size ≤ s.size)
  (hA : e1 = 0 → num a ++ s.extract (s.size - s1.size) s.size = s)
  (hB : e2 = 0 → (b.size : Int) ≤ 2147483647 ∧ (num b.size ++ b) ++ s.extract (s.size - s2.size) s.size = s)
  (hC : e3 = 0 → c.length ≤ 17592186043904 ∧ CodeOnceCode.nums c ++ s.extract (s.size - s3.size) s.size = s) :
  Ev (fun k => calamuslaw01_CodeOnce.j0 k s m a b c false s1 e1 s2 e2 s3 e3) true := by
 have w : ∀ t : ByteArray, t.size ≤ s.size → wrap64 ((s.size : Int) - mn (s.size : Int) (t.size : Int)) = ((s.size - t.size : Nat) : Int) := by
  intro t ht
  have : mn (s.size : Int) (t.size : Int) = (t.size : Int) := by unfold mn; split <;> omega
  rw [this, wrap_id (by omega) (by omega)]
  omega
 refine ev_off 1 ?_
 simp only [calamuslaw01_CodeOnce.j0, code_Reader_Left.f, code_Reader_Err.f, Option.bind_some, w s1 z1, w s2 z2, w s3 z3, Int.toNat_natCast]
 refine ev_neg (by simp) ?_
 by_cases h1 : e1 = 0
 ·have q2 := hA h1
  have q3 := congrArg ByteArray.size q2
  rw [size_app] at q3
  refine ev_pos h1 (ev_bind (num_any a) (ev_pos (by omega) (ev_pos (by omega) (ev_pos (by omega) ?_))))
  rw [q2]
  refine evr ?_
  by_cases h2 : e2 = 0
  ·obtain ⟨q1, q2⟩ := hB h2
   have q3 := congrArg ByteArray.size q2
   rw [size_app] at q3
   refine ev_pos h2 (ev_bind (by have q := text_any b (by omega); rw [if_pos q1] at q; exact q) (ev_pos (by omega) (ev_pos (by omega) (ev_pos (by omega) ?_))))
   rw [q2]
   refine evr ?_
   by_cases h3 : e3 = 0
   ·obtain ⟨q1, q2⟩ := hC h3
    have q3 := congrArg ByteArray.size q2
    rw [size_app] at q3
    refine ev_pos h3 (ev_bind (nums_any c q1) (ev_pos (by omega) (ev_pos (by omega) (ev_pos (by omega) ?_))))
    rw [q2, bne_self]
    exact j1_is m
   ·exact ev_neg h3 (j1_is m)
  ·refine ev_neg h2 ?_
   by_cases h3 : e3 = 0
   ·obtain ⟨q1, q2⟩ := hC h3
    have q3 := congrArg ByteArray.size q2
    rw [size_app] at q3
    refine ev_pos h3 (ev_bind (nums_any c q1) (ev_pos (by omega) (ev_pos (by omega) (ev_pos (by omega) ?_))))
    rw [q2, bne_self]
    exact j1_is m
   ·exact ev_neg h3 (j1_is m)
 ·refine ev_neg h1 ?_
  by_cases h2 : e2 = 0
  ·obtain ⟨q1, q2⟩ := hB h2
   have q3 := congrArg ByteArray.size q2
   rw [size_app] at q3
   refine ev_pos h2 (ev_bind (by have q := text_any b (by omega); rw [if_pos q1] at q; exact q) (ev_pos (by omega) (ev_pos (by omega) (ev_pos (by omega) ?_))))
   rw [q2]
   refine evr ?_
   by_cases h3 : e3 = 0
   ·obtain ⟨q1, q2⟩ := hC h3
    have q3 := congrArg ByteArray.size q2
    rw [size_app] at q3
    refine ev_pos h3 (ev_bind (nums_any c q1) (ev_pos (by omega) (ev_pos (by omega) (ev_pos (by omega) ?_))))
    rw [q2, bne_self]
    exact j1_is m
   ·exact ev_neg h3 (j1_is m)
  ·refine ev_neg h2 ?_
   by_cases h3 : e3 = 0
   ·obtain ⟨q1, q2⟩ := hC h3
    have q3 := congrArg ByteArray.size q2
    rw [size_app] at q3
    refine ev_pos h3 (ev_bind (nums_any c q1) (ev_pos (by omega) (ev_pos (by omega) (ev_pos (by omega) ?_))))
    rw [q2, bne_self]
    exact j1_is m
   ·exact ev_neg h3 (j1_is m)
theorem num_of (s : ByteArray) (h : 4 ≤ s.size) (hn : num4 (s.extract 0 4) ≤ 2147483647) : num (num4 (s.extract 0 4)) = s.extract 0 4 := by
 have hr := num4_range (s.extract 0 4)
 apply bytes_inj
 rw [bytes_num, enc_yes ⟨hr.1, hn⟩, num4_cut, bytes_extract]
 rw [num4_cut] at hn
 have hl := bytes_len s
 have hb := bytes_range s
 simp only [bytes_get] at hn ⊢
 match hL : bytesOf s with
 | [] => rw [hL] at hl; simp at hl; omega
 | [_] => rw [hL] at hl; simp at hl; omega
 | [_, _] => rw [hL] at hl; simp at hl; omega
 | [_, _, _] => rw [hL] at hl; simp at hl; omega
 | x :: y :: z :: u :: r =>
  rw [hL] at hb hn
  have h0 := hb x (by simp)
  have h1 := hb y (by simp)
  have h2 := hb z (by simp)
  have h3 := hb u (by simp)
  simp at hn ⊢
  omega
/-- What is read stands there. -/
theorem rN_ok (s : ByteArray) (h : (rN s 0).2.2 = 0) : isN (rN s 0).1 ∧ num (rN s 0).1 ++ (rN s 0).2.1 = s := by
 unfold rN at *
 rw [if_pos rfl] at *
 by_cases h1 : s.size < 4
 ·rw [if_pos h1] at h; exact absurd h (by decide)
 ·rw [if_neg h1] at h ⊢
  by_cases h2 : num4 (s.extract 0 4) > 2147483647
  ·rw [if_pos h2] at h; exact absurd h (by decide)
  ·rw [if_neg h2]
   have hr := num4_range (s.extract 0 4)
   refine ⟨⟨hr.1, by simp only; omega⟩, ?_⟩
   show num (num4 (s.extract 0 4)) ++ s.extract 4 s.size = s
   rw [num_of s (by omega) (by omega), ext_cat s 0 4 s.size (by omega) (by omega)]
   exact ext_all rfl
theorem back_of {a b s : ByteArray} (h : a ++ b = s) : b.size ≤ s.size ∧ s.extract (s.size - b.size) s.size = b := by
 subst h
 have : (a ++ b).size - b.size = a.size := by rw [size_app]; omega
 rw [this]
 exact ⟨by rw [size_app]; omega, ext_back a b⟩
theorem nil_le (s : ByteArray) : (⟨#[]⟩ : ByteArray).size ≤ s.size := by show (0 : Nat) ≤ _; omega
theorem rN_size (s : ByteArray) (e : Int) : (rN s e).2.1.size ≤ s.size := by
 unfold rN
 split
 ·split
  ·exact nil_le s
  ·split
   ·exact nil_le s
   ·show (s.extract 4 s.size).size ≤ _; rw [ext_size]; omega
 ·exact Nat.le_refl _
theorem rM_size (s : ByteArray) (e m : Int) : (rM s e m).2.2.1.size ≤ s.size := by
 unfold rM
 simp only
 split
 ·split
  ·exact nil_le s
  ·exact rN_size s e
 ·exact rN_size s e
theorem rM_ok (s : ByteArray) (m : Int) (h : (rM s 0 m).2.1 = true) : isN (rM s 0 m).1 ∧ num (rM s 0 m).1 ++ (rM s 0 m).2.2.1 = s := by
 unfold rM at *
 simp only at *
 by_cases h1 : (rN s 0).2.2 = 0
 ·rw [if_pos h1] at h ⊢
  by_cases h2 : (rN s 0).1 > m
  ·rw [if_pos h2] at h; exact absurd h (show ¬ false = true from by decide)
  ·rw [if_neg h2]; exact rN_ok s h1
 ·rw [if_neg h1] at h; exact absurd h (show ¬ false = true from by decide)
theorem rM_err (s : ByteArray) (m : Int) (h : ¬ (rM s 0 m).2.1 = true) : (rM s 0 m).2.2.2 ≠ 0 := by
 unfold rM at *
 simp only at *
 by_cases h1 : (rN s 0).2.2 = 0
 ·rw [if_pos h1] at h ⊢
  by_cases h2 : (rN s 0).1 > m
  ·rw [if_pos h2]; show (6 : Int) ≠ 0; decide
  ·rw [if_neg h2] at h; exact absurd rfl h
 ·rw [if_neg h1]; exact h1
theorem rT_size (s : ByteArray) (m : Int) : (rT s 0 m).2.1.size ≤ s.size := by
 have := rM_size s 0 m
 unfold rT
 simp only
 split
 ·split
  ·exact nil_le s
  ·show (ByteArray.extract _ _ _).size ≤ _; rw [ext_size]; omega
 ·exact this
theorem rT_ok (s : ByteArray) (m : Int) (h : (rT s 0 m).2.2 = 0) : ((rT s 0 m).1.size : Int) ≤ 2147483647 ∧ (num (rT s 0 m).1.size ++ (rT s 0 m).1) ++ (rT s 0 m).2.1 = s := by
 unfold rT at *
 simp only at *
 by_cases h1 : (rM s 0 m).2.1 = true
 ·rw [if_pos h1] at h ⊢
  obtain ⟨hn, e⟩ := rM_ok s m h1
  by_cases h2 : (rM s 0 m).1 > ((rM s 0 m).2.2.1.size : Int)
  ·rw [if_pos h2] at h; exact absurd h (by decide)
  ·rw [if_neg h2]
   generalize rM s 0 m = X at *
   obtain ⟨n, hn'⟩ := Int.eq_ofNat_of_zero_le hn.1
   have hz : ((X.2.2.1.extract 0 X.1.toNat).size : Int) = X.1 := by rw [ext_size]; omega
   have hu := hn.2
   simp only [hz]
   refine ⟨hu, ?_⟩
   rw [app_assoc, ext_cat X.2.2.1 0 X.1.toNat X.2.2.1.size (by omega) (by omega), ext_all rfl]
   exact e
 ·rw [if_neg h1] at h; exact absurd h (rM_err s m h1)
theorem rL_size (n : Nat) : ∀ (l : List Int) (s : ByteArray) (e : Int), (rL n l s e).2.1.size ≤ s.size := by
 induction n with
 | zero => intro l s e; unfold rL; split <;> exact Nat.le_refl _
 | succ n ih =>
  intro l s e
  unfold rL
  split
  ·exact Nat.le_trans (ih _ _ _) (rN_size s e)
  ·exact Nat.le_refl _
theorem rL_ok (n : Nat) : ∀ (l : List Int) (s : ByteArray), (rL n l s 0).2.2 = 0 → ∃ M : List Int, (rL n l s 0).1 = l ++ M ∧ M.length = n ∧ (∀ x ∈ M, isN x) ∧ bytesOf s = M.flatMap enc ++ bytesOf (rL n l s 0).2.1 := by
 induction n with
 | zero => intro l s _; exact ⟨[], by simp [rL], rfl, by simp, by simp [rL]⟩
 | succ n ih =>
  intro l s h
  unfold rL at h ⊢
  rw [if_pos rfl] at h ⊢
  by_cases h1 : (rN s 0).2.2 = 0
  ·rw [h1] at h ⊢
   obtain ⟨hn, e⟩ := rN_ok s h1
   obtain ⟨M, q1, q2, q3, q4⟩ := ih _ _ h
   refine ⟨(rN s 0).1 :: M, by rw [q1]; simp, by simp [q2], ?_, ?_⟩
   ·intro x hx
    rcases List.mem_cons.1 hx with rfl | hx
    ·exact hn
    ·exact q3 x hx
   ·rw [List.flatMap_cons, List.append_assoc, ← q4, ← bytes_num, ← bytes_append, e]
  ·rw [rL_no _ _ _ _ h1] at h; exact absurd h h1
theorem rNs_size (s : ByteArray) (m : Int) : (rNs s 0 m).2.1.size ≤ s.size := by
 have := rM_size s 0 m
 unfold rNs
 simp only
 split
 ·exact Nat.le_trans (rL_size _ _ _ _) this
 ·exact this
theorem rNs_ok (s : ByteArray) (m : Int) (h : (rNs s 0 m).2.2 = 0) : CodeOnceCode.nums (rNs s 0 m).1 ++ (rNs s 0 m).2.1 = s := by
 unfold rNs at *
 simp only at *
 by_cases h1 : (rM s 0 m).2.1 = true
 ·rw [if_pos h1] at h ⊢
  obtain ⟨hn, e⟩ := rM_ok s m h1
  have e0 := (rM_yes h1).1
  generalize rM s 0 m = X at *
  rw [e0] at h ⊢
  obtain ⟨M, q1, q2, q3, q4⟩ := rL_ok X.1.toNat [] X.2.2.1 h
  rw [q1, List.nil_append]
  apply bytes_inj
  have hl : (M.length : Int) = X.1 := by have := hn.1; omega
  rw [bytes_append, CodeOnceCode.nums, cat_bytes M _ q3, hl, List.append_assoc, ← q4, ← bytes_append, e]
 ·rw [if_neg h1] at h; exact absurd h (rM_err s m h1)
theorem CodeOnce : calamuslaw01_CodeOnce.Pure := by
 intro s m hs hm
 refine Ev.rounds (g := fun k => calamuslaw01_CodeOnce.f k s m) ?_
 unfold calamuslaw01_CodeOnce.f
 simp only [code_NewReader.f, code_Reader_Left.f, Option.bind_some, rN_is, rT_is]
 have nn : ∀ t : ByteArray, ¬ (t.size : Int) < 0 := fun t => by omega
 refine ev_bind (rNs_is s 0 m) ?_
 refine ev_neg (nn _) (ev_neg (nn _) ?_)
 rw [decide_eq_false (nn _)]
 have l3 := rNs_len s 0 m
 refine j0_is s m _ _ _ _ _ _ _ _ _ hs (rN_size s 0) (rT_size s m) (rNs_size s m) ?_ ?_ ?_
 ·intro h
  obtain ⟨_, e⟩ := rN_ok s h
  rw [(back_of e).2]; exact e
 ·intro h
  obtain ⟨q, e⟩ := rT_ok s m h
  rw [(back_of e).2]; exact ⟨q, e⟩
 ·intro h
  have e := rNs_ok s m h
  rw [(back_of e).2]; exact ⟨by omega, e⟩
end Go.Proofs.Ytjobaaolohemgaa.Pure
