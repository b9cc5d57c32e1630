/- UtfWalks: from place to place, forwards and back, all of a text is gone through, rune by rune. -/
import Derived.Test.YtjobaaolohemgaaUtfWalksUtf
namespace Go.Proofs.Ytjobaaolohemgaa.Pure
open Go.RowKit Go.Proofs.YtjobaaolohemgaaW.PrintWords Go.Proofs.YtjobaaolohemgaaW.PrintLast Go.Proofs.YtjobaaolohemgaaW.PrintMore
open Go.Proofs.Ytjobaaolohemgaa.PUtfWalks Go.Proofs.Ytjobaaolohemgaa.Utf Go.Proofs.Ytjobaaolohemgaa.UtfWalksUtf

theorem lives_ : Ev (fun k => calamuslaw03_lives.f k) true := Ev.of calamuslaw03_lives.mono (k := 30) (by decide +kernel)

theorem inner_walk {s : ByteArray} {rs xs ys : List (List Int)} {r : List Int} (hs : s.size ≤ 500) (h : All rs) (e : bytesOf s = rs.flatten) (a : rs = xs ++ r :: ys) (out : ByteArray) (n : Int)
    (k : Ev (fun k => calamuslaw03_UtfWalks.l0 k s ((xs.flatten.length + r.length : Nat) : Int) out (wrap64 (n + 1))) true) (d : Nat) : ∀ j, j + d = r.length → 1 ≤ j →
    Ev (fun k => calamuslaw03_UtfWalks.l1 k s (xs.flatten.length : Int) out n ((xs.flatten.length + r.length : Nat) : Int) ((xs.flatten.length + j : Nat) : Int)) true := by
  have hsz : s.size = rs.flatten.length := by rw [← e, bytes_len]
  have hl : xs.flatten.length + r.length ≤ s.size := by rw [hsz, a, List.flatten_append, List.flatten_cons, List.length_append, List.length_append]; omega
  induction d with
  | zero =>
    intro j hj _
    refine Ev.step (fun k => ?_) k
    rw [calamuslaw03_UtfWalks.l1, if_neg (by omega)]
  | succ d ih =>
    intro j hj h1
    have no : ∀ xs' ys', ¬ Is rs ((xs.flatten.length + j : Nat) : Int) xs' ys' := by
      intro xs' ys' ⟨p, q⟩
      have q' : xs.flatten.length + j = xs'.flatten.length := by omega
      rcases Nat.lt_or_ge xs.length xs'.length with g | g
      · have : xs ++ [r] <+: xs' := List.prefix_of_prefix_length_le (l₃ := rs) ⟨ys, by rw [a]; simp⟩ ⟨ys', p.symm⟩ (by simp; omega)
        obtain ⟨z, rfl⟩ := this
        rw [List.flatten_append, List.length_append, flat_snoc] at q'
        omega
      · have : xs' <+: xs := List.prefix_of_prefix_length_le (l₃ := rs) ⟨ys', p.symm⟩ ⟨r :: ys, a.symm⟩ g
        obtain ⟨z, rfl⟩ := this
        rw [List.flatten_append, List.length_append] at q'
        omega
    refine Ev.step (f := fun k => (utf_Place.f k s ((xs.flatten.length + j : Nat) : Int)).bind fun t143 => (if t143 = true then (some false) else ((utf_Cut.f k s ((xs.flatten.length + j : Nat) : Int)).bind fun t144 => (if 0 ≤ (xs.flatten.length : Int) then (if (xs.flatten.length : Int) ≤ (s.size : Int) then (if t144.toList = (s.extract 0 (xs.flatten.length : Int).toNat).toList then (calamuslaw03_UtfWalks.l1 k s (xs.flatten.length : Int) out n ((xs.flatten.length + r.length : Nat) : Int) ((xs.flatten.length + (j + 1) : Nat) : Int)) else (some false)) else (none)) else (none))))) (fun k => ?_) ?_
    · rw [calamuslaw03_UtfWalks.l1, if_pos (by omega), wrap_id (by omega) (by omega)]; rfl
    · refine ev_bind (place_not h e no) (ev_neg (by simp) (ev_bind (cut_yes (by omega) h e a rfl (by omega)) (ev_pos (by omega) (ev_pos (by omega) (ev_pos (by rw [Int.toNat_natCast]) ?_)))))
      exact ih (j + 1) (by omega) (by omega)
theorem walk_l {s : ByteArray} {rs : List (List Int)} (hs : s.size ≤ 500) (h : All rs) (e : bytesOf s = rs.flatten) (ys : List (List Int)) : ∀ xs (out : ByteArray), rs = xs ++ ys → bytesOf out = xs.flatten →
    Ev (fun k => calamuslaw03_UtfWalks.l0 k s (xs.flatten.length : Int) out (xs.length : Int)) true := by
  have hsz : s.size = rs.flatten.length := by rw [← e, bytes_len]
  induction ys with
  | nil =>
    intro xs out a ho
    rw [List.append_nil] at a
    subst a
    obtain rfl : out = s := bytes_inj (by rw [ho, e])
    refine Ev.step (f := fun k => (utf_Next.f k out (out.size : Int)).bind fun t145 => (if t145 = (-1) then ((utf_Prev.f k out 0).bind fun t146 => (if t146 = (-1) then ((utf_Cut.f k out (out.size : Int)).bind fun t147 => (if t147.toList = out.toList then ((calamuslaw03_lives.f k).bind fun t148 => (some t148)) else (some false))) else (some false))) else (some false))) (fun k => ?_) ?_
    · rw [calamuslaw03_UtfWalks.l0, if_neg (by omega), if_pos rfl]
    · refine ev_bind (next_end h e ⟨by simp, by rw [hsz]⟩) (ev_pos rfl ?_)
      refine ev_bind (prev_zero (place_yes h e ⟨(List.nil_append rs).symm, rfl⟩)) (ev_pos rfl ?_)
      refine ev_bind (cut_end ⟨rs, h, e⟩ (Int.le_refl _)) (ev_pos ?_ (ev_bind lives_ (Ev.now _)))
      rw [toList_inj]
      exact bytes_inj (by rw [bytes_extract, List.drop_zero, List.take_of_length_le (by rw [bytes_len]; omega)])
  | cons r ys ih =>
    intro xs out a ho
    have hr : Rn r := h r (by rw [a]; simp)
    have h14 := one_len hr
    have hl : xs.flatten.length + r.length ≤ s.size := by rw [hsz, a, List.flatten_append, List.flatten_cons, List.length_append, List.length_append]; omega
    have hll : rs.length = xs.length + (ys.length + 1) := by rw [a]; simp
    have hfl := flat_len rs h
    have a1 : Is rs (xs.flatten.length : Int) xs (r :: ys) := ⟨a, rfl⟩
    have a2 : Is rs ((xs.flatten.length : Int) + r.length) (xs ++ [r]) ys := ⟨by rw [a]; simp, by rw [flat_snoc]; omega⟩
    have hru : bytesOf (s.extract (xs.flatten.length : Int).toNat ((xs.flatten.length : Int) + r.length).toNat) = r := by
      rw [bytes_extract, e, a, List.flatten_append, List.flatten_cons, Int.toNat_natCast, List.drop_left, show ((xs.flatten.length : Int) + r.length).toNat - xs.flatten.length = r.length from by omega, List.take_left]
    have q := ih (xs ++ [r]) (out ++ s.extract (xs.flatten.length : Int).toNat ((xs.flatten.length : Int) + r.length).toNat) (by rw [a]; simp) (by rw [bytes_append, hru, ho]; simp)
    rw [flat_snoc, List.length_append, List.length_singleton] at q
    have hos : out.size = xs.flatten.length := by rw [← bytes_len, ho]
    have hes : (s.extract (xs.flatten.length : Int).toNat ((xs.flatten.length : Int) + r.length).toNat).size = r.length := by rw [← bytes_len, hru]
    have q1 := inner_walk hs h e a _ (xs.length : Int) (by rw [wrap_id (by omega) (by omega)]; exact q) (r.length - 1) 1 (by omega) (by omega)
    have q2 : Ev (fun k => calamuslaw03_UtfWalks.j2 k s (xs.flatten.length : Int) out (xs.length : Int) ((xs.flatten.length : Int) + r.length) false) true := by
      refine Ev.step (f := fun k => (utf_Rune.f k s (xs.flatten.length : Int)).bind fun t142 => (if out.size + t142.size ≤ 9223372036854775807 then (calamuslaw03_UtfWalks.l1 k s (xs.flatten.length : Int) (out ++ t142) (xs.length : Int) ((xs.flatten.length : Int) + r.length) ((xs.flatten.length + 1 : Nat) : Int)) else (none))) (fun k => ?_) ?_
      · rw [calamuslaw03_UtfWalks.j2, if_neg (by simp), wrap_id (by omega) (by omega)]; rfl
      · refine ev_bind (rune_yes (by omega) h e a1) (ev_pos (by rw [hes]; omega) ?_)
        exact q1
    refine Ev.step (f := fun k => (utf_Next.f k s (xs.flatten.length : Int)).bind fun t138 => (if t138 ≤ (xs.flatten.length : Int) then (calamuslaw03_UtfWalks.j2 k s (xs.flatten.length : Int) out (xs.length : Int) t138 true) else (if t138 > (s.size : Int) then (calamuslaw03_UtfWalks.j2 k s (xs.flatten.length : Int) out (xs.length : Int) t138 true) else ((utf_Prev.f k s t138).bind fun t139 => (if t139 = (xs.flatten.length : Int) then ((utf_Offset.f k s (xs.length : Int)).bind fun t140 => (if t140 = (xs.flatten.length : Int) then ((utf_Rune.f k s (xs.flatten.length : Int)).bind fun t141 => (if 0 ≤ (xs.flatten.length : Int) then (if (xs.flatten.length : Int) ≤ t138 then (if t138 ≤ (s.size : Int) then (calamuslaw03_UtfWalks.j2 k s (xs.flatten.length : Int) out (xs.length : Int) t138 (t141.toList != (s.extract (xs.flatten.length : Int).toNat (t138 : Int).toNat).toList)) else (none)) else (none)) else (none))) else (calamuslaw03_UtfWalks.j2 k s (xs.flatten.length : Int) out (xs.length : Int) t138 true))) else (calamuslaw03_UtfWalks.j2 k s (xs.flatten.length : Int) out (xs.length : Int) t138 true)))))) (fun k => ?_) ?_
    · rw [calamuslaw03_UtfWalks.l0, if_pos (by omega)]
    · refine ev_bind (next_yes (by omega) h e a1) (ev_neg (by omega) (ev_neg (by omega) ?_))
      have pv := prev_yes (by omega) h e a2
      rw [show (xs.flatten.length : Int) + r.length - r.length = xs.flatten.length from by omega] at pv
      refine ev_bind pv (ev_pos rfl ?_)
      have of := off_yes (n := xs.length) (by omega) h e (by omega)
      rw [if_pos (by omega), a, List.take_left] at of
      refine ev_bind of (ev_pos rfl ?_)
      refine ev_bind (rune_yes (by omega) h e a1) (ev_pos (by omega) (ev_pos (by omega) (ev_pos (by omega) ?_)))
      simp only [bne_self_eq_false]
      exact q2
theorem UtfWalks : calamuslaw03_UtfWalks.Pure := by
  intro s hs
  refine Ev.rounds (g := fun k => calamuslaw03_UtfWalks.f k s) ?_
  have jt : Ev (fun k => calamuslaw03_UtfWalks.j0 k s true) true := by
    refine Ev.step (f := fun k => (calamuslaw03_lives.f k).bind fun t137 => (some t137)) (fun k => ?_) (ev_bind lives_ (Ev.now _))
    rw [calamuslaw03_UtfWalks.j0, if_pos rfl]
  unfold calamuslaw03_UtfWalks.f
  by_cases h5 : (s.size : Int) > 500
  · exact ev_pos h5 jt
  refine ev_neg h5 ?_
  by_cases hv : Val (bytesOf s)
  · refine ev_bind (valid_yes hv) ?_
    obtain ⟨rs, h, e⟩ := hv
    refine Ev.step (fun k => ?_) (walk_l (by omega) h e rs [] _ rfl bytes_empty)
    rw [calamuslaw03_UtfWalks.j0, if_neg (by simp)]; rfl
  · exact ev_bind (valid_no hv) jt

end Go.Proofs.Ytjobaaolohemgaa.Pure
