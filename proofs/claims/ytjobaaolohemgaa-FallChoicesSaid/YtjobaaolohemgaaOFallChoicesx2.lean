/- Of the law calamus/calamuslaw32.FallChoices: each function as a plain Lean function, with a proof that the call comes to it; the row. By wip/tpl/own_print.py. Conditions: none but the row's own. -/
import Derived.Test.YtjobaaolohemgaaOFallChoicesx0
import Derived.Test.YtjobaaolohemgaaOFallChoicesx1
namespace Go.Proofs.Ytjobaaolohemgaa.PFallChoices
open Go.RowKit Go.Proofs.YtjobaaolohemgaaW.PrintWords Go.Proofs.YtjobaaolohemgaaW.PrintLast Go.Proofs.YtjobaaolohemgaaW.PrintMore
attribute [local go_sem] max2_int min2_int max_two min_two max_three min_three max_four min_four   -- for this text's walks alone
set_option linter.unusedVariables false
set_option linter.unusedSimpArgs false

/-! ### fall_Nth: function 56, by hand (fall.Nth.lean) -/
set_option maxHeartbeats 2000000 in
set_option maxRecDepth 100000 in
/-- each, with the closure of build. -/
theorem fall_each_n (C D : Nat) (d : Int) (l : List Int) (A : Option Addr) (c : Nat) (w : World) (I : Nat → World → Prop) (hlc : l.length ≤ c) (hlm : l.length ≤ 17592186044416)
  (h0 : I 0 (w.alloc (.cells #[.int .i64 d, .slice A l.length c] 58 (0, 0))))
  (hbox : ∀ j w', I j w' → w'.heap[w.heap.size]? = some (.cells #[.int .i64 d, .slice A l.length c] 58 (0, 0)))
  (hl : ∀ j w', I j w' → Kd.C (Kd.int .i64) w' A l.length l)
  (hs0 : ∀ w', I 0 w' → Calls Try.prog 84 #[.int .i64 (-1), .int .i64 d, .pointer (some ⟨C, 0, none⟩), .pointer (some ⟨D, 0, none⟩)] w' fun e w'' => e = .returned (.tuple #[]) ∧ I 1 w'')
  (hs : ∀ (k : Nat) w', k < l.length → I (k + 1) w' → Calls Try.prog 84 #[.int .i64 k, .int .i64 (rd l k), .pointer (some ⟨C, 0, none⟩), .pointer (some ⟨D, 0, none⟩)] w' fun e w'' => e = .returned (.tuple #[]) ∧ I (k + 2) w'') :
  Calls Try.prog 77 #[.agg #[.int .i64 d, .slice A l.length c], .func (.func 84) #[] #[.pointer (some ⟨C, 0, none⟩), .pointer (some ⟨D, 0, none⟩)]] w fun e w' => e = .returned (.tuple #[]) ∧ I (l.length + 1) w' := by
 have H0 := Aside0.mk h0
 have HBOX := Aside0.mk hbox
 have HL := Aside0.mk hl
 have HS0 := Aside0.mk hs0
 have HS := Aside0.mk hs
 clear h0 hbox hl hs0 hs
 have hlm' : (l.length : Int) ≤ 17592186044416 := by omega
 go_enter Try.func77, Try.ntmps77
 go_wp2_with (go_at_call 84; (with_reducible refine (HS0.out _ H0.out).mono ?_); rintro e w1 ⟨rfl, h1⟩; have HI := Aside0.mk h1; clear h1; obtain ⟨hb0, hb1, hb2, hb3⟩ := bc2_ (Aside0.mk (HBOX.out _ _ HI.out)))
 go_loopw [13] (fun i wr => ∃ k : Nat, k ≤ l.length ∧ i = .int .i64 k ∧ Aside0 (I (k + 1) wr)) (fun i _ => l.length - (intOf i).toNat)
 case atStart => exact ⟨0, Nat.zero_le _, rfl, HI⟩
 case round =>
  clear hb0 hb1 hb2 hb3
  obtain ⟨k, hk, rfl, HJ⟩ := hrel
  by_cases hlt : k < l.length
  ·have hltI : (k : Int) < (l.length : Int) := by omega
   have hk0 : (0 : Int) ≤ (k : Int) := by omega
   obtain ⟨ad, e0, hx⟩ := Kd.at_int (HL.out _ _ HJ.out) (k : Int) hk0 hltI
   rw [Int.toNat_natCast] at hx
   cases e0
   go_wp2_with (go_at_call 84; (with_reducible refine (HS.out k _ hlt HJ.out).mono ?_); rintro e w2 ⟨rfl, h2⟩; have HI2 := Aside0.mk h2; clear h2)
   go_roundw
   case rel => exact ⟨k + 1, by omega, by go_num, HI2⟩
   case measure => simp [intOf]; omega
  ·obtain rfl : k = l.length := by omega
   go_wp2
   first | go_end0 | ((try simp only [Exit.inBlock, Exit.then]); refine bodyPost_ret (results_none rfl _ _ _) rfl ?_)
   exact ⟨rfl, HJ.out⟩

set_option maxHeartbeats 4000000 in
set_option maxRecDepth 100000 in
theorem fall_build1_n (i n x : Int) (F O X B G E : Nat) (dir : Int) (v : Value) (xs : List Int) (XO XO' BO GO : Obj) (W0 w : World)
  (hF : w.heap[F]? = some (.cells #[.func (.func 79) #[] #[.pointer (some ⟨X, 0, none⟩)]] 84 (0, 0))) (hO : w.heap[O]? = some (.cells #[.int .i64 dir, v] 58 (0, 0))) (hX : w.heap[X]? = some XO) (hBo : w.heap[B]? = some BO) (hG : w.heap[G]? = some GO)
  (hR : Kd.R (Kd.int .i64) 3 w W0.heap.size (fun k => k ≠ F ∧ k ≠ O ∧ k ≠ X ∧ k ≠ B ∧ k ≠ G ∧ E ≤ k) v xs) (hB : Below W0.heap.size W0 w) (hl : xs.length ≤ 1000000) (hE : E ≤ O ∧ E ≤ w.heap.size) (hne : (F ≠ O ∧ F ≠ X ∧ O ≠ X) ∧ (B ≠ O ∧ B ≠ X) ∧ (G ≠ O ∧ G ≠ X) ∧ W0.heap.size ≤ O)
  (hcall : Calls Try.prog 79 #[.int .i64 i, .int .i64 (wrap64 (n + 1)), .pointer (some ⟨X, 0, none⟩)] w fun e w' => e = .returned (.int .i64 x) ∧ Below W0.heap.size W0 w' ∧ KeepBut w w' X none ∧ w'.heap[X]? = some XO') :
  Calls Try.prog 84 #[.int .i64 i, .int .i64 n, .pointer (some ⟨F, 0, none⟩), .pointer (some ⟨O, 0, none⟩)] w fun e w' => e = .returned (.tuple #[]) ∧ Below W0.heap.size W0 w' ∧
   w'.heap[F]? = some (.cells #[.func (.func 79) #[] #[.pointer (some ⟨X, 0, none⟩)]] 84 (0, 0)) ∧ w'.heap[X]? = some XO' ∧ w'.heap[B]? = some BO ∧ w'.heap[G]? = some GO ∧ (∀ k, k < E → k ≠ X → w'.heap[k]? = w.heap[k]?) ∧
   ∃ v', w'.heap[O]? = some (.cells #[.int .i64 (if i < 0 then x else dir), v'] 58 (0, 0)) ∧ Kd.R (Kd.int .i64) 3 w' W0.heap.size (fun k => k ≠ F ∧ k ≠ O ∧ k ≠ X ∧ k ≠ B ∧ k ≠ G ∧ E ≤ k) v' (if i < 0 then xs else xs ++ [x]) := by
 obtain ⟨hf0, hf1⟩ := bc1_ (Aside0.mk hF)
 have HF := Aside0.mk hF
 have HO := Aside0.mk hO
 have HX := Aside0.mk hX
 have HBo := Aside0.mk hBo
 have HG := Aside0.mk hG
 have HE := Aside0.mk hE
 have HR := Aside0.mk hR
 have HCALL := Aside0.mk hcall
 obtain ⟨⟨n1, n2, n3⟩, ⟨n4, n5⟩, ⟨n7, n8⟩, n6⟩ := hne
 have N1 := Aside0.mk n1
 have N2 := Aside0.mk n2
 have N3 := Aside0.mk n3
 have N4 := Aside0.mk n4
 have N5 := Aside0.mk n5
 have N6 := Aside0.mk n6
 have N7 := Aside0.mk n7
 have N8 := Aside0.mk n8
 have HL := Aside0.mk hl
 clear hF hO hX hBo hG hE hR hB hcall n1 n2 n3 n4 n5 n6 n7 n8 hl
 have keep : ∀ {w' : World} {k : Nat} {o : Obj}, KeepBut w w' X none → w.heap[k]? = some o → k ≠ X → w'.heap[k]? = some o := fun hk h hn => (hk.2 _ (blk_lt h) hn (by simp)).trans h
 have KEEP := Aside0.mk @keep
 clear keep
 by_cases hi : i < 0
 ·rw [if_pos hi, if_pos hi]
  have d0 : decide (i < 0) = true := decide_eq_true hi
  clear hi
  go_enter Try.func84, Try.ntmps84
  go_wp2_with (go_at_call 79; (with_reducible refine HCALL.out.mono ?_); rintro e w1 ⟨rfl, hb, hk, hx⟩; have KO := Aside0.mk (KEEP.out hk HO.out N3.out); have KF := Aside0.mk (KEEP.out hk HF.out N2.out); have KB := Aside0.mk (KEEP.out hk HBo.out N5.out); have KG := Aside0.mk (KEEP.out hk HG.out N8.out); have KR := Aside0.mk (Kd.R_keep HR.out hk (fun k hk => hk.2.2.1)); have HK := Aside0.mk hk; have KX := Aside0.mk hx; have HB := Aside0.mk hb; clear hb hk hx; obtain ⟨o0, o1, o2, o3⟩ := bc2_ KO)
  first | go_end0 | ((try simp only [Exit.inBlock, Exit.then]); refine bodyPost_ret (results_none rfl _ _ _) rfl ?_)
  exact ⟨rfl, below_set HB.out N6.out, blk_far KF.out N1.out _, (by obtain ⟨c, t, fr⟩ := XO'; all_goals exact (Below.heap_setCell _ _ _ X (Ne.symm N3.out)).trans KX.out), (Below.heap_setCell _ _ _ B N4.out).trans KB.out, (Below.heap_setCell _ _ _ G N7.out).trans KG.out, (fun k h1 h2 => (Below.heap_setCell _ _ _ k (by have := HE.out.1; show k ≠ O; omega)).trans (HK.out.2 k (by have := HE.out.2; omega) h2 (by simp))), v, by simpa using blk_set KO.out 0 (.int .i64 x), Kd.R_far KR.out (fun k hk => hk.2.1) _⟩
 ·rw [if_neg hi, if_neg hi]
  have d0 : decide (i < 0) = false := decide_eq_false hi
  clear hi
  go_enter Try.func84, Try.ntmps84
  go_wp2_with (first | (go_at_call 79; (with_reducible refine HCALL.out.mono ?_); rintro e w1 ⟨rfl, hb, hk, hx⟩; have KO := Aside0.mk (KEEP.out hk HO.out N3.out); have KF := Aside0.mk (KEEP.out hk HF.out N2.out); have KB := Aside0.mk (KEEP.out hk HBo.out N5.out); have KG := Aside0.mk (KEEP.out hk HG.out N8.out); have KR := Aside0.mk (Kd.R_keep HR.out hk (fun k hk => hk.2.2.1)); have HK := Aside0.mk hk; have KX := Aside0.mk hx; have HB := Aside0.mk hb; clear hb hk hx; obtain ⟨o0, o1, o2, o3⟩ := bc2_ KO) | ((with_reducible refine gate_builtin (b := .append) (xs := #[.tmp 17, .tmp 19]) rfl ?_); at_builtin; refine Kd.R_append (Kd.int .i64) W0.heap.size rfl (.tmp 17) (.tmp 19) 22 3 (.int .i64 0) 8 rfl Try.underlying22 (by kernel_rfl) rfl (by decide) (by omega) v xs x [.int .i64 x] (fun k => k ≠ F ∧ k ≠ O ∧ k ≠ X ∧ k ≠ B ∧ k ≠ G ∧ E ≤ k) (fun _ => False) rfl rfl ?aP (fun _ hk => hk.elim) ?aF ?aO HB.out ?aS ?aL ?_; (case aP => exact rfl); (case aF => exact (fun k hk => by have h1 := blk_lt KF.out; have h2 := blk_lt KO.out; have h3 := blk_lt KX.out; have h4 := blk_lt KB.out; have h5 := blk_lt KG.out; have h6 := HE.out.2; have h7 := HK.out.1; omega)); (case aO => exact KR.out); (case aS => exact HB.out.size); (case aL => have := HL.out; omega); intro v2 w2 ho hb hg hat; obtain ⟨A2, c2, rfl⟩ := Kd.R_slice ho; have P1 := KR.out.1; have JO := Aside0.mk (blk_grown KO.out hg (fun e => (P1 _ e.symm).2.1 rfl)); have JF := Aside0.mk (blk_grown KF.out hg (fun e => (P1 _ e.symm).1 rfl)); have JB := Aside0.mk (blk_grown KB.out hg (fun e => (P1 _ e.symm).2.2.2.1 rfl)); have JG := Aside0.mk (blk_grown KG.out hg (fun e => (P1 _ e.symm).2.2.2.2.1 rfl)); have JX := Aside0.mk (blk_grown KX.out hg (fun e => (P1 _ e.symm).2.2.1 rfl)); have JK := Aside0.mk (show ∀ k, k < E → k ≠ X → w2.heap[k]? = w.heap[k]? from fun k h1 h2 => (hg.block k (by have := HE.out.2; have := HK.out.1; omega) (fun e => by have := (P1 _ e.symm).2.2.2.2.2; omega)).trans (HK.out.2 k (by have := HE.out.2; omega) h2 (by simp))); have JR := Aside0.mk ho; have JBW := Aside0.mk hb; clear P1 ho hb hg hat o0 o1 o2 o3; obtain ⟨o0, o1, o2, o3⟩ := bc2_ JO))
  first | go_end0 | ((try simp only [Exit.inBlock, Exit.then]); refine bodyPost_ret (results_none rfl _ _ _) rfl ?_)
  exact ⟨rfl, below_set JBW.out N6.out, blk_far JF.out N1.out _, (Below.heap_setCell _ _ _ X (Ne.symm N3.out)).trans JX.out, (Below.heap_setCell _ _ _ B N4.out).trans JB.out, (Below.heap_setCell _ _ _ G N7.out).trans JG.out, (fun k h1 h2 => (Below.heap_setCell _ _ _ k (by have := HE.out.1; show k ≠ O; omega)).trans (JK.out k h1 h2)), _, by simpa using blk_set JO.out 1 (.slice A2 (xs ++ [x]).length c2), Kd.R_far JR.out (fun k hk => hk.2.1) _⟩
/-- What stands when so many numbers have been gone through. -/
def BInv_n (W0 we : World) (F O X B G : Nat) (BO GO : Obj) (x : Nat → Int) (XO : Nat → Obj) (j : Nat) (w : World) : Prop :=
 ((∀ k, k < we.heap.size → k ≠ X → w.heap[k]? = we.heap[k]?) ∧ we.heap.size ≤ O ∧ we.heap.size ≤ w.heap.size) ∧ (w.heap[F]? = some (.cells #[.func (.func 79) #[] #[.pointer (some ⟨X, 0, none⟩)]] 84 (0, 0)) ∧ w.heap[X]? = some (XO j) ∧ w.heap[B]? = some BO ∧ w.heap[G]? = some GO ∧ Below W0.heap.size W0 w) ∧ ((F ≠ O ∧ F ≠ X ∧ O ≠ X) ∧ (B ≠ O ∧ B ≠ X) ∧ (G ≠ O ∧ G ≠ X) ∧ W0.heap.size ≤ O) ∧
 ∃ v, w.heap[O]? = some (.cells #[.int .i64 (if j = 0 then 0 else x 0), v] 58 (0, 0)) ∧ Kd.R (Kd.int .i64) 3 w W0.heap.size (fun k => k ≠ F ∧ k ≠ O ∧ k ≠ X ∧ k ≠ B ∧ k ≠ G ∧ we.heap.size ≤ k) v ((List.range (j - 1)).map (fun k => x (k + 1)))
set_option maxHeartbeats 4000000 in
set_option maxRecDepth 100000 in
theorem fall_build_n (X : Nat) (d : Int) (l : List Int) (A : Option Addr) (c : Nat) (W0 w : World) (x : Nat → Int) (XO : Nat → Obj) (hlc : l.length ≤ c) (hlm : l.length ≤ 1000000)
  (hl : Kd.C (Kd.int .i64) W0 A l.length l) (hB : Below W0.heap.size W0 w) (hX : w.heap[X]? = some (XO 0))
  (hs0 : ∀ w', w'.heap[X]? = some (XO 0) → Below W0.heap.size W0 w' → Calls Try.prog 79 #[.int .i64 (-1), .int .i64 (wrap64 (d + 1)), .pointer (some ⟨X, 0, none⟩)] w' fun e w'' => e = .returned (.int .i64 (x 0)) ∧ Below W0.heap.size W0 w'' ∧ KeepBut w' w'' X none ∧ w''.heap[X]? = some (XO 1))
  (hs : ∀ (k : Nat) w', k < l.length → w'.heap[X]? = some (XO (k + 1)) → Below W0.heap.size W0 w' → Calls Try.prog 79 #[.int .i64 k, .int .i64 (wrap64 (rd l k + 1)), .pointer (some ⟨X, 0, none⟩)] w' fun e w'' => e = .returned (.int .i64 (x (k + 1))) ∧ Below W0.heap.size W0 w'' ∧ KeepBut w' w'' X none ∧ w''.heap[X]? = some (XO (k + 2))) :
  Calls Try.prog 71 #[.agg #[.int .i64 d, .slice A l.length c], .func (.func 79) #[] #[.pointer (some ⟨X, 0, none⟩)]] w fun e w' => ∃ v, e = .returned (.agg #[.int .i64 (x 0), v]) ∧ Kd.R (Kd.int .i64) 3 w' W0.heap.size (fun k => w.heap.size ≤ k) v ((List.range l.length).map (fun k => x (k + 1))) ∧ Below W0.heap.size W0 w' ∧ ∀ k, k < w.heap.size → k ≠ X → w'.heap[k]? = w.heap[k]? := by
 have hu := Try.underlying58
 have HC := Aside0.mk hlc
 have HLM := Aside0.mk hlm
 have HL := Aside0.mk hl
 have HX := Aside0.mk hX
 have HS0 := Aside0.mk hs0
 have HS := Aside0.mk hs
 have HB := Aside0.mk hB
 have HWW := Aside0.mk (Below.refl w.heap.size w)
 have HXL := Aside0.mk (blk_lt hX)
 clear hlc hlm hl hX hs0 hs hB
 go_enter Try.func71, Try.ntmps71
 go_wp2_with (first | ((with_reducible refine gate_dst (N := 2) rfl ?_); refine be_ (N := 2) (cs := #[.int .i64 d, .slice A l.length c]) (t := 58) (h := ?_); intro gb hg w1 hbox hb; have BK := Aside0.mk hbox; have GK := gw_ HB hg; have NXK := Aside0.mk (show X ≠ gb by have h1 := HXL.out; rw [hg]; exact Nat.ne_of_lt h1); replace HX := Aside0.mk (blk_below HX.out hb); replace HB := bs_ HB hb; replace HWW := bs_ HWW hb; clear hb hbox hg) | ((with_reducible refine gate_dst (N := 3) rfl ?_); refine be_ (N := 3) (cs := #[.func (.func 79) #[] #[.pointer (some ⟨X, 0, none⟩)]]) (t := 84) (h := ?_); intro gf hg w2 hbox hb; have BF := Aside0.mk hbox; have NXF := Aside0.mk (show X ≠ gf by have h1 := blk_lt HX.out; rw [hg]; exact Nat.ne_of_lt h1); have NKF := ne_ BK hg; replace HX := Aside0.mk (blk_below HX.out hb); replace BK := bb_ BK hb; replace HB := bs_ HB hb; replace HWW := bs_ HWW hb; clear hb hbox hg) | ((with_reducible refine gate_dst (N := 4) rfl ?_); refine be_ (N := 4) (cs := #[.int .i64 0, .slice none 0 0]) (t := 58) (h := ?_); intro gr hg w3 hbox hb; have BR := Aside0.mk hbox; have GR := gw_ HB hg; have GRE := gw_ HWW hg; have NXR := Aside0.mk (show gr ≠ X by have h1 := blk_lt HX.out; rw [hg]; exact Nat.ne_of_gt h1); replace HX := Aside0.mk (blk_below HX.out hb); replace BK := bb_ BK hb; replace BF := bb_ BF hb; replace HB := bs_ HB hb; replace HWW := bs_ HWW hb; clear hb hbox hg) | ((with_reducible refine gate_dst (N := 5) rfl ?_); refine be_ (N := 5) (cs := #[.int .i64 0, .slice none 0 0]) (t := 58) (h := ?_); intro go_ hg w4 hbox hb; have BO := Aside0.mk hbox; have GO := gw_ HB hg; have GOE := gw_ HWW hg; have NXO := Aside0.mk (show X ≠ go_ by have h1 := blk_lt HX.out; rw [hg]; exact Nat.ne_of_lt h1); have NFO := ne_ BF hg; have NRO := ne_ BR hg; have NKO := ne_ BK hg; replace HX := Aside0.mk (blk_below HX.out hb); replace BK := bb_ BK hb; replace BF := bb_ BF hb; replace BR := bb_ BR hb; replace HB := bs_ HB hb; replace HWW := bs_ HWW hb; clear hb hbox hg; obtain ⟨hk0, hk1, hk2, hk3⟩ := bc2_ BK))
 refine (fall_each_n gf go_ d l A c _ (fun j w' => BInv_n W0 w gf go_ X w4.heap.size gr (.cells #[.int .i64 d, .slice A l.length c] 58 (0, 0)) (.cells #[.int .i64 0, .slice none 0 0] 58 (0, 0)) x XO j w') HC.out (Nat.le_trans HLM.out (by decide)) ?h0 (fun j w' h => h.2.1.2.2.1) (fun j w' h => Kd.C_below HL.out h.2.1.2.2.2.2) ?hs0 ?hs).mono ?_
 case h0 =>
  have K := (Below.refl w4.heap.size w4).alloc (Nat.le_refl _) (.cells #[.int .i64 d, .slice A l.length c] 58 (0, 0))
  exact ⟨⟨fun k h1 h2 => (heap_alloc_old w4 _ (by have := HWW.out.size; omega)).trans (HWW.out.block k h1), GOE.out, by have := HWW.out.size; have := K.size; omega⟩, ⟨blk_below BF.out K, blk_below HX.out K, heap_alloc_new _ _, blk_below BR.out K, below_alloc HB.out _⟩, ⟨⟨NFO.out, Ne.symm NXF.out, Ne.symm NXO.out⟩, ⟨by have := blk_lt BO.out; omega, by have := blk_lt HX.out; omega⟩, ⟨NRO.out, NXR.out⟩, GO.out⟩, _, blk_below BO.out K, Kd.R_nil _ _ _ _ _⟩
 case hs0 =>
  rintro w' ⟨⟨kp, e1, e2⟩, ⟨f, hx, b, g, bl⟩, ne, v, o, r⟩
  refine (fall_build1_n (-1) d (x 0) gf go_ X _ gr w.heap.size _ v _ (XO 0) (XO 1) _ _ W0 w' f o hx b g r bl (by simp) ⟨e1, e2⟩ ne (HS0.out w' hx bl)).mono ?_
  rintro e w'' ⟨rfl, bl', f', x', b', g', kp', v', o', r'⟩
  exact ⟨rfl, ⟨fun k h1 h2 => (kp' k h1 h2).trans (kp k h1 h2), e1, Nat.le_trans e1 (Nat.le_of_lt (blk_lt o'))⟩, ⟨f', x', b', g', bl'⟩, ne, v', by simpa using o', by simpa using r'⟩
 case hs =>
  rintro k w' hk ⟨⟨kp, e1, e2⟩, ⟨f, hx, b, g, bl⟩, ne, v, o, r⟩
  have hlm := HLM.out
  refine (fall_build1_n k (rd l k) (x (k + 1)) gf go_ X _ gr w.heap.size _ v _ (XO (k + 1)) (XO (k + 2)) _ _ W0 w' f o hx b g r bl (by simp; omega) ⟨e1, e2⟩ ne (HS.out k w' hk hx bl)).mono ?_
  rintro e w'' ⟨rfl, bl', f', x', b', g', kp', v', o', r'⟩
  rw [if_neg (by omega)] at o' r'
  refine ⟨rfl, ⟨fun k h1 h2 => (kp' k h1 h2).trans (kp k h1 h2), e1, Nat.le_trans e1 (Nat.le_of_lt (blk_lt o'))⟩, ⟨f', x', b', g', bl'⟩, ne, v', by simpa using o', ?_⟩
  have e3 : (List.range (k + 2 - 1)).map (fun k => x (k + 1)) = (List.range (k + 1 - 1)).map (fun k => x (k + 1)) ++ [x (k + 1)] := by
   rw [show k + 2 - 1 = k + 1 from rfl, show k + 1 - 1 = k from rfl, List.range_succ, List.map_append]; rfl
  rw [e3]
  exact r'
 rintro e w5 ⟨rfl, ⟨kp, e1, e2⟩, ⟨f, hx, b, g, bl⟩, ne, v, o, r⟩
 rw [if_neg (Nat.succ_ne_zero _), ] at o
 obtain ⟨A2, c2, rfl⟩ := Kd.R_slice r
 simp only [show l.length + 1 - 1 = l.length from rfl, List.length_map, List.length_range] at o r
 have PO := Aside0.mk o
 have PG := Aside0.mk g
 have PR := Aside0.mk r
 have PB := Aside0.mk bl
 have PGE := Aside0.mk GR.out
 have PK := Aside0.mk kp
 clear f hx b g bl ne o r kp e1 e2
 have hnb := NRO.out
 have hnc := Ne.symm NRO.out
 obtain ⟨o0, o1, o2, o3⟩ := bc2_ PO
 obtain ⟨g0, g1, g2, g3⟩ := bc2_ PG
 go_wp2
 refine bodyPost_ret (results_cell_row rfl _ _ gr 58 #[.int .i64 (x 0), .slice A2 l.length c2] (0, 0) _ rfl (bp_ PG.out) hu rfl (by kernel_rfl)) rfl ?_
 exact ⟨_, rfl, Kd.R_mono (Kd.R_far (Kd.R_far PR.out (fun k hk => hk.2.2.2.2.1) _) (fun k hk => hk.2.2.2.2.1) _) (fun _ hk => hk.2.2.2.2.2), below_set (below_set PB.out PGE.out) PGE.out, fun k h1 h2 => (Below.heap_setCell _ _ _ k (by have := GRE.out; show k ≠ gr; omega)).trans ((Below.heap_setCell _ _ _ k (by have := GRE.out; show k ≠ gr; omega)).trans (PK.out k h1 h2))⟩
set_option maxHeartbeats 1000000 in
set_option maxRecDepth 100000 in
theorem fall_nth1 (i b n : Int) (X : Nat) (w : World) (hX : w.heap[X]? = some (.cells #[.int .i64 n] 3 (0, 0))) (hb : b ≠ 0) :
  Calls Try.prog 79 #[.int .i64 i, .int .i64 b, .pointer (some ⟨X, 0, none⟩)] w fun e w' => e = .returned (.int .i64 (Int.tmod n b)) ∧ w' = w.setCell ⟨X, 0, none⟩ (.int .i64 (wrap64 (Int.tdiv n b))) := by
 have hc := cell_of_one hX
 have hf := free_of_one hX
 have b0 : (b == 0) = false := beq_eq_false_iff_ne.mpr hb
 have b1 : (b != 0) = true := bne_iff_ne.mpr hb
 clear hX
 go_enter Try.func79, Try.ntmps79
 go_wp2
 go_ret
 exact ⟨rfl, rfl⟩
def rm_ (d : Int) (l : List Int) : Nat → Int
 | 0 => d + 1
 | k + 1 => rd l (k : Int) + 1
def ns (d : Int) (l : List Int) (n : Int) : Nat → Int
 | 0 => n
 | k + 1 => wrap64 (Int.tdiv (ns d l n k) (rm_ d l k))
def nx (d : Int) (l : List Int) (n : Int) (k : Nat) : Int := Int.tmod (ns d l n k) (rm_ d l k)
theorem cnt1_pos (a n : Int) (ha : 1 ≤ a) (hn : okn n = true) : 1 ≤ cnt1 a n := by
 simp only [okn, Bool.and_eq_true, decide_eq_true_eq] at hn
 have h1 : 1 * (n + 1) ≤ a * (n + 1) := Int.mul_le_mul_of_nonneg_right ha (by omega)
 unfold cnt1 mn
 split <;> omega
theorem cntAll_pos : ∀ (l : List Int) (a : Int), 1 ≤ a → (∀ x ∈ l, okn x = true) → 1 ≤ l.foldl cnt1 a
 | [], a, h, _ => h
 | n :: l, a, h, hl => cntAll_pos l _ (cnt1_pos a n h (hl n (by simp))) (fun x hx => hl x (by simp [hx]))
def fall_Nth.f (a0_0 : Int) (l0_1 : List Int) (a1 : Int) : Option (Int × List Int) := (fall_right.f a0_0 l0_1).bind fun b => if b = true then (if l0_1.length ≤ 1000 then some (nx a0_0 l0_1 (rnd a1 (cntAll (a0_0 :: l0_1))) 0, (List.range l0_1.length).map (fun k : Nat => nx a0_0 l0_1 (rnd a1 (cntAll (a0_0 :: l0_1))) (k + 1))) else none) else some (0, [])
theorem fall_Count.yes {d : Int} {l : List Int} (h : fall_right.f d l = some true) : fall_Count.f d l = some (cntAll (d :: l)) := by
 unfold fall_Count.f
 rw [h]
 rfl
set_option maxHeartbeats 4000000 in
set_option maxRecDepth 100000 in
theorem fall_Nth.calls (a0_0 : Int) (A0_1 : Option Addr) (c0_1 : Nat) (l0_1 : List Int) (a1 : Int) (r1 : Int) (r2 : List Int) (w : World) (hr0_1 : Kd.C (Kd.int .i64) w A0_1 l0_1.length l0_1) (hc0_1 : l0_1.length ≤ c0_1) (h : fall_Nth.f a0_0 l0_1 a1 = some (r1, r2)) :
  Calls Try.prog 56 #[.agg #[.int .i64 a0_0, .slice A0_1 l0_1.length c0_1], .int .i64 a1] w fun e w' => ∃ v1_ : Value, e = .returned (.agg #[.int .i64 r1, v1_]) ∧ Kd.R (Kd.int .i64) 3 w' w.heap.size (fun _ => True) v1_ r2 ∧ Below w.heap.size w w' := by
 have hu := Try.underlying58
 have HR := Aside0.mk hr0_1
 have HC := Aside0.mk hc0_1
 clear hr0_1 hc0_1
 have HB := Aside0.mk (Below.refl w.heap.size w)
 obtain ⟨b, hb, H⟩ := Option.bind_eq_some_iff.mp h
 clear h
 have A1 := Aside0.mk hb
 clear hb
 cases b with
 | false =>
  rw [if_neg (by decide)] at H
  simp only [Option.some.injEq, Prod.mk.injEq] at H
  obtain ⟨rfl, rfl⟩ := H
  go_enter Try.func56, Try.ntmps56
  go_wp2_with (first | ((with_reducible refine gate_dst (N := 2) rfl ?_); refine be_ (N := 2) (cs := #[.int .i64 a0_0, .slice A0_1 l0_1.length c0_1]) (t := 58) (h := ?_); intro gb hg w1 hbox hb; have BK := Aside0.mk hbox; replace HB := bs_ HB hb; clear hb hbox hg) | ((with_reducible refine gate_dst (N := 3) rfl ?_); refine be_ (N := 3) (cs := #[.int .i64 a1]) (t := 3) (h := ?_); intro gx hg w2 hbox hb; have BX := Aside0.mk hbox; replace BK := bb_ BK hb; replace HB := bs_ HB hb; clear hb hbox hg) | ((with_reducible refine gate_dst (N := 4) rfl ?_); refine be_ (N := 4) (cs := #[.int .i64 0, .slice none 0 0]) (t := 58) (h := ?_); intro gr hg w3 hbox hb; have BR := Aside0.mk hbox; have GR := gw_ HB hg; replace BK := bb_ BK hb; replace BX := bb_ BX hb; replace HB := bs_ HB hb; clear hb hbox hg; obtain ⟨hk0, hk1, hk2, hk3⟩ := bc2_ BK) | ((with_reducible refine gate_callee (f := 70) rfl ?_); refine ge_ (some 6) rfl rfl Try.func70 (by kernel_rfl) rfl #[.agg #[.int .i64 a0_0, .slice A0_1 l0_1.length c0_1]] rfl (h := ?_); (with_reducible refine (fall_right.calls a0_0 _ _ l0_1 false _ ?side1 ?side2 A1.out).mono ?_); (case side1 => exact cw_ (Kd.C_below HR.out HB.out)); (case side2 => exact HC.out); rintro e w4 ⟨rfl, hb⟩; refine ⟨_, rfl, ?_⟩; replace BK := bb_ BK hb; replace BR := bb_ BR hb; replace HB := bs_ HB hb; clear hb hk0 hk1 hk2 hk3; obtain ⟨hr0, hr1, hr2, hr3⟩ := bc2_ BR))
  refine bodyPost_ret (results_cell_row rfl _ _ gr 58 #[.int .i64 0, .slice none 0 0] (0, 0) _ rfl (bp_ BR.out) hu rfl (by kernel_rfl)) rfl ?_
  exact ⟨_, rfl, Kd.R_nil _ _ _ _ _, below_set (below_set HB.out GR.out) GR.out⟩
 | true =>
  rw [if_pos rfl] at H
  have hall := fall_right.some_ A1.out
  by_cases hm : l0_1.length ≤ 1000
  ·rw [if_pos hm] at H
   simp only [Option.some.injEq, Prod.mk.injEq] at H
   obtain ⟨rfl, rfl⟩ := H
   have HLM := Aside0.mk hm
   have HA := Aside0.mk hall.2.symm
   have HCT := Aside0.mk (cntAll_take HA.out (l0_1.length + 1))
   rw [List.take_of_length_le (by simp)] at HCT
   have HCP : Aside0 (1 ≤ cntAll (a0_0 :: l0_1)) := ⟨cntAll_pos (a0_0 :: l0_1) 1 (by decide) (okn_all HA.out)⟩
   clear hall hm
   go_enter Try.func56, Try.ntmps56
   go_wp2_with (first | ((with_reducible refine gate_dst (N := 2) rfl ?_); refine be_ (N := 2) (cs := #[.int .i64 a0_0, .slice A0_1 l0_1.length c0_1]) (t := 58) (h := ?_); intro gb hg w1 hbox hb; have BK := Aside0.mk hbox; replace HB := bs_ HB hb; clear hb hbox hg) | ((with_reducible refine gate_dst (N := 3) rfl ?_); refine be_ (N := 3) (cs := #[.int .i64 a1]) (t := 3) (h := ?_); intro gx hg w2 hbox hb; have BX := Aside0.mk hbox; have GX := gw_ HB hg; have NKX := ne_ BK hg; replace BK := bb_ BK hb; replace HB := bs_ HB hb; clear hb hbox hg) | ((with_reducible refine gate_dst (N := 4) rfl ?_); refine be_ (N := 4) (cs := #[.int .i64 0, .slice none 0 0]) (t := 58) (h := ?_); intro gr hg w3 hbox hb; have BR := Aside0.mk hbox; have GR := gw_ HB hg; have NRX := en_ BX hg; replace BK := bb_ BK hb; replace BX := bb_ BX hb; replace HB := bs_ HB hb; clear hb hbox hg; obtain ⟨hk0, hk1, hk2, hk3⟩ := bc2_ BK) | ((with_reducible refine gate_callee (f := 70) rfl ?_); refine ge_ (some 6) rfl rfl Try.func70 (by kernel_rfl) rfl #[.agg #[.int .i64 a0_0, .slice A0_1 l0_1.length c0_1]] rfl (h := ?_); (with_reducible refine (fall_right.calls a0_0 _ _ l0_1 true _ ?side1 ?side2 A1.out).mono ?_); (case side1 => exact cw_ (Kd.C_below HR.out HB.out)); (case side2 => exact HC.out); rintro e w4 ⟨rfl, hb⟩; refine ⟨_, rfl, ?_⟩; replace BK := bb_ BK hb; replace BX := bb_ BX hb; replace BR := bb_ BR hb; replace HB := bs_ HB hb; clear hb hk0 hk1 hk2 hk3))
   have n0_ := Aside0.mk (blk_drew BK.out)
   have n1_ := Aside0.mk (blk_drew BX.out)
   have n2_ := Aside0.mk (blk_drew BR.out)
   have n3_ := Aside0.mk (below_drew1 HB.out)
   clear BK BX BR HB
   have BK := n0_
   have BX := n1_
   have BR := n2_
   have HB := n3_
   clear n0_ n1_ n2_ n3_
   refine start_ (n := 5) (S := fun w' => w'.cell? ⟨gx, 0, none⟩ = some (.int .i64 a1) ∧ w'.cell? ⟨gb, 0, none⟩ = some (.int .i64 a0_0) ∧ w'.cell? ⟨gb, 1, none⟩ = some (.slice A0_1 l0_1.length c0_1)) (ds := [4]) #[false, false, false, false, false] (by kernel_rfl) rfl rfl ⟨(blk_cell BX.out 0).trans rfl, (blk_cell BK.out 0).trans rfl, (blk_cell BK.out 1).trans rfl⟩ (fun hHeld => ?_)
   generalize w4.drew = w5 at BK BX BR HB hHeld ⊢
   refine take_ (i := 0) (N := some 9) (v := ?_) (a' := ?_) #[true, false, false, false, false] rfl rfl (by kernel_rfl) (fun _ _ _ h => h) (Or.inl ⟨by rfl, ?_⟩) hHeld ?_ ?_
   rotate_left
   ·rintro w' ⟨s0, s1, s2⟩
    go_simp
    with_reducible rfl
   rotate_left
   ·simp only [Act.put, List.setIfInBounds_toArray, List.set_cons_zero, List.set_cons_succ, i64_w, i32_w]
    rfl
   refine take_ (i := 1) (N := some 10) (v := ?_) (a' := ?_) #[true, true, false, false, false] rfl rfl (by kernel_rfl) (fun _ _ _ h => h) (Or.inl ⟨by rfl, ?_⟩) hHeld ?_ ?_
   rotate_left
   ·rintro w' ⟨s0, s1, s2⟩
    go_simp
    with_reducible rfl
   rotate_left
   ·simp only [Act.put, List.setIfInBounds_toArray, List.set_cons_zero, List.set_cons_succ, i64_w, i32_w]
    rfl
   refine one_ (i := 2) (N := some 11) #[true, true, true, false, false] rfl rfl (by kernel_rfl) (by decide) (fun K hK => ?_)
   refine goes_ Try.func54 (by kernel_rfl) rfl #[.agg #[.int .i64 a0_0, .slice A0_1 l0_1.length c0_1]] (by rfl) rfl rfl (by (try simp only [List.map_toArray, List.map_cons, List.map_nil]); first | done | rfl | (simp only [List.length_drop, List.length_take]; rfl)) ?_
   with_reducible refine (fall_Count.calls a0_0 _ _ l0_1 _ _ ?side1 ?side2 (fall_Count.yes A1.out)).mono ?_
   (case side1 => exact cw_ (Kd.C_below HR.out HB.out))
   (case side2 => exact HC.out)
   rintro e w6 ⟨rfl, hb⟩
   refine ⟨_, rfl, ?_⟩
   replace BK := bb_ BK hb
   replace BX := bb_ BX hb
   replace BR := bb_ BR hb
   replace HB := bs_ HB hb
   clear hb
   refine hK.out _ _ ⟨(blk_cell BX.out 0).trans rfl, (blk_cell BK.out 0).trans rfl, (blk_cell BK.out 1).trans rfl⟩ (fun hHeld => ?_)
   clear hK K
   refine norm_ (a' := ?_) ?_ ?_
   rotate_left
   ·show Act.put _ (some 11) _ = _
    simp only [Act.put, List.setIfInBounds_toArray, List.set_cons_zero, List.set_cons_succ, i64_w, i32_w]
    rfl
   refine one_ (i := 3) (N := some 12) #[true, true, true, true, false] rfl rfl (by kernel_rfl) (by decide) (fun K hK => ?_)
   refine goes_ Try.func73 (by kernel_rfl) rfl #[.int .i64 a1, .int .i64 (cntAll (a0_0 :: l0_1))] (by rfl) rfl rfl (by (try simp only [List.map_toArray, List.map_cons, List.map_nil]); first | done | rfl | (simp only [List.length_drop, List.length_take]; rfl)) ?_
   with_reducible refine (fall_round.calls a1 (cntAll (a0_0 :: l0_1)) _ _ (rnd_is a1 (cntAll (a0_0 :: l0_1)) ⟨HCP.out, Int.le_trans HCT.out.2 (by decide)⟩)).mono ?_
   rintro e w7 ⟨rfl, hd⟩
   have hb := hd.below
   clear hd
   refine ⟨_, rfl, ?_⟩
   replace BK := bb_ BK hb
   replace BX := bb_ BX hb
   replace BR := bb_ BR hb
   replace HB := bs_ HB hb
   clear hb
   refine hK.out _ _ ⟨(blk_cell BX.out 0).trans rfl, (blk_cell BK.out 0).trans rfl, (blk_cell BK.out 1).trans rfl⟩ (fun hHeld => ?_)
   clear hK K
   refine norm_ (a' := ?_) ?_ ?_
   rotate_left
   ·show Act.put _ (some 12) _ = _
    simp only [Act.put, List.setIfInBounds_toArray, List.set_cons_zero, List.set_cons_succ, i64_w, i32_w]
    rfl
   obtain ⟨x0, x1⟩ := bc1_ BX
   refine last_ (i := 4) (N := none) #[true, true, true, true, true] rfl rfl (by kernel_rfl) (by decide) (fun K hK => ?_)
   refine skip_ (w1 := ?_) (by rfl) rfl ?_ ?_
   rotate_left
   ·go_simp
    rfl
   refine hK.out _ _ ?_
   clear hK K
   refine done_ (by kernel_rfl) ?_
   have BX2 := Aside0.mk (show (w7.setCell ⟨gx, 0, none⟩ (.int .i64 (rnd a1 (cntAll (a0_0 :: l0_1))))).heap[gx]? = some (.cells #[.int .i64 (rnd a1 (cntAll (a0_0 :: l0_1)))] 3 (0, 0)) from by simpa using blk_set BX.out 0 (.int .i64 (rnd a1 (cntAll (a0_0 :: l0_1)))))
   have BK2 := Aside0.mk (blk_far (p := ⟨gx, 0, none⟩) BK.out NKX.out (.int .i64 (rnd a1 (cntAll (a0_0 :: l0_1)))))
   have BR2 := Aside0.mk (blk_far (p := ⟨gx, 0, none⟩) BR.out NRX.out (.int .i64 (rnd a1 (cntAll (a0_0 :: l0_1)))))
   have HB2 := Aside0.mk (below_set (j := 0) (v := .int .i64 (rnd a1 (cntAll (a0_0 :: l0_1)))) HB.out GX.out)
   clear x0 x1 BX BK BR HB hHeld
   generalize w7.setCell ⟨gx, 0, none⟩ (.int .i64 (rnd a1 (cntAll (a0_0 :: l0_1)))) = w8 at BX2 BK2 BR2 HB2 ⊢
   obtain ⟨hk0, hk1, hk2, hk3⟩ := bc2_ BK2
   go_wp2_with (fail)
   have hxo : ∀ x ∈ a0_0 :: l0_1, wrap64 (x + 1) = x + 1 ∧ x + 1 ≠ 0 := fun x hx => by
    have q := okn_room (okn_all HA.out x hx)
    exact ⟨q.1, by omega⟩
   have HXO := Aside0.mk hxo
   clear hxo
   refine (fall_build_n gx a0_0 l0_1 A0_1 c0_1 w w8 (nx a0_0 l0_1 (rnd a1 (cntAll (a0_0 :: l0_1)))) (fun j => .cells #[.int .i64 (ns a0_0 l0_1 (rnd a1 (cntAll (a0_0 :: l0_1))) j)] 3 (0, 0)) HC.out (by have := HLM.out; omega) HR.out HB2.out BX2.out ?hs0 ?hs).mono ?_
   case hs0 =>
    intro w' hx hb
    have q := HXO.out a0_0 (by simp)
    rw [q.1]
    refine (fall_nth1 (-1) (a0_0 + 1) _ gx w' hx q.2).mono ?_
    rintro e w'' ⟨rfl, rfl⟩
    exact ⟨rfl, below_set hb GX.out, (KeepBut.refl _ _ _).set_ 0 _, one_setCell hx⟩
   case hs =>
    intro k w' hk hx hb
    have q := HXO.out (rd l0_1 (k : Int)) (List.mem_cons_of_mem _ (List.mem_of_getElem? (rd_some hk)))
    rw [q.1]
    refine (fall_nth1 k (rd l0_1 (k : Int) + 1) _ gx w' hx q.2).mono ?_
    rintro e w'' ⟨rfl, rfl⟩
    exact ⟨rfl, below_set hb GX.out, (KeepBut.refl _ _ _).set_ 0 _, one_setCell hx⟩
   rintro e w9 ⟨v, rfl, r, bl, kp⟩
   obtain ⟨A2, c2, rfl⟩ := Kd.R_slice r
   simp only [List.length_map, List.length_range] at r
   have PR := Aside0.mk (Kd.R_mono r (fun k hk => (show k ≠ gr by have := blk_lt BR2.out; omega)))
   have BR5 := Aside0.mk ((kp gr (blk_lt BR2.out) NRX.out).trans BR2.out)
   have PB := Aside0.mk bl
   clear r bl kp hk0 hk1 hk2 hk3
   simp only [List.length_map, List.length_range]
   obtain ⟨g0, g1, g2, g3⟩ := bc2_ BR5
   go_wp2
   refine bodyPost_ret (results_cell_row rfl _ _ gr 58 #[.int .i64 (nx a0_0 l0_1 (rnd a1 (cntAll (a0_0 :: l0_1))) 0), .slice A2 l0_1.length c2] (0, 0) _ rfl (bp_ BR5.out) hu rfl (by kernel_rfl)) rfl ?_
   exact ⟨_, rfl, Kd.R_mono (Kd.R_far (Kd.R_far PR.out (fun k hk => hk) _) (fun k hk => hk) _) (fun _ _ => trivial), below_set (below_set PB.out GR.out) GR.out⟩
  ·rw [if_neg hm] at H
   exact absurd H (by simp)

/-! ### calamuslaw32_lives: function 50 -/
def calamuslaw32_lives.f  : Option (Bool) := (some (([2] : List Int) : List Int)).bind fun y101 => ((fall_Nth.f 1 y101 3).bind fun bt105 => ((fall_Count.f 1 y101).bind fun t110 => (if t110 = 6 then (if bt105.1 = 1 then (if (bt105.2.length : Int) = 1 then (if 0 < (bt105.2.length : Int) then (some ((rd bt105.2 0) == 1)) else (none)) else (some false)) else (some false)) else (some false))))
theorem calamuslaw32_lives.true_ {r : Bool} (h : calamuslaw32_lives.f = some r) : r = true := by
 have h2 := (show calamuslaw32_lives.f = some true by decide +kernel)
 rw [h] at h2
 exact Option.some.inj h2
set_option maxHeartbeats 8000000 in
set_option maxRecDepth 100000 in
theorem calamuslaw32_lives.calls  (r : Bool) (w : World) (h : calamuslaw32_lives.f  = some r) :
  Calls Try.prog 50 #[] w fun e w' => e = .returned (.bool r) ∧ Below w.heap.size w w' := by
 have hr_ := calamuslaw32_lives.true_ h
 have hu58 := Try.underlying58
 have HB := Aside0.mk (Below.refl w.heap.size w)
 have H : ((some (([2] : List Int) : List Int)).bind fun y101 => ((fall_Nth.f 1 y101 3).bind fun bt105 => ((fall_Count.f 1 y101).bind fun t110 => (if t110 = 6 then (if bt105.1 = 1 then (if (bt105.2.length : Int) = 1 then (if 0 < (bt105.2.length : Int) then (some ((rd bt105.2 0) == 1)) else (none)) else (some false)) else (some false)) else (some false))))) = some r := h
 clear h
 obtain ⟨y101, hy101⟩ : ∃ y_ : List Int, y_ = (([2] : List Int)) := ⟨_, rfl⟩
 replace H : ((fall_Nth.f 1 y101 3).bind fun bt105 => ((fall_Count.f 1 y101).bind fun t110 => (if t110 = 6 then (if bt105.1 = 1 then (if (bt105.2.length : Int) = 1 then (if 0 < (bt105.2.length : Int) then (some ((rd bt105.2 0) == 1)) else (none)) else (some false)) else (some false)) else (some false)))) = some r := th_ H hy101
 have Ny101 := Aside0.mk hy101
 clear hy101
 replace H := Option.bind_eq_some_iff.mp H
 obtain ⟨⟨t105, t106⟩, A10, H⟩ := H
 replace H : ((fall_Count.f 1 y101).bind fun t110 => (if t110 = 6 then (if t105 = 1 then (if (t106.length : Int) = 1 then (if 0 < (t106.length : Int) then (some ((rd t106 0) == 1)) else (none)) else (some false)) else (some false)) else (some false))) = some r := H
 have A1 := Aside0.mk A10
 clear A10
 replace H := Option.bind_eq_some_iff.mp H
 obtain ⟨t110, A20, H⟩ := H
 replace H : (if t110 = 6 then (if t105 = 1 then (if (t106.length : Int) = 1 then (if 0 < (t106.length : Int) then (some ((rd t106 0) == 1)) else (none)) else (some false)) else (some false)) else (some false)) = some r := H
 have A2 := Aside0.mk A20
 clear A20
 by_cases c3 : t110 = 6
 ·rw [if_pos c3] at H
  have c3b0 : (t110 == 6) = true := beq_iff_eq.mpr c3
  have c3b1 : (t110 != 6) = false := bne_eq_false_iff_eq.mpr c3
  clear c3
  by_cases c4 : t105 = 1
  ·rw [if_pos c4] at H
   have c4b0 : (t105 == 1) = true := beq_iff_eq.mpr c4
   have c4b1 : (t105 != 1) = false := bne_eq_false_iff_eq.mpr c4
   clear c4
   by_cases c5 : (t106.length : Int) = 1
   ·rw [if_pos c5] at H
    have c5b0 : ((t106.length : Int) == 1) = true := beq_iff_eq.mpr c5
    have c5b1 : ((t106.length : Int) != 1) = false := bne_eq_false_iff_eq.mpr c5
    clear c5
    by_cases c6 : 0 < (t106.length : Int)
    ·rw [if_pos c6] at H
     have c6b0 : decide (0 < (t106.length : Int)) = true := decide_eq_true c6
     have c6b1 : decide (0 < t106.length) = true := decide_eq_true (by omega)
     clear c6
     obtain rfl := Option.some.inj H
     go_enter Try.func50, Try.ntmps50
     go_wp2_with (first | ((with_reducible refine gate_dst (N := 3) rfl ?_); (try (refine gate_guard (by rfl) ?_; dsimp only)); refine Kd.R_lit (Kd.int .i64) _ 3 ?hg (N := 3) ?hd (xs := ([2] : List Int)) (inner := [.int .i64 2]) (ok := fun _ => True) (okp := fun _ => True) ?hr ?hp (fun _ hk => hk) trivial (Below.refl _ _) (Nat.le_refl _) (by simp) ?_; (case hd => rfl); (case hg => rfl); (case hr => first | (go_simp; done) | (go_simp; rfl)); (case hp => exact (Reps.one (show Kd.M (Kd.int .i64) _ _ _ 2 [.int .i64 2] from rfl) (Reps.none _ _))); intro v102 w7 ho8 hb hg_ hnew_; clear hg_ hnew_; (first | rw [← Ny101.out] at ho8 | (simp only [Int.reduceToNat] at ho8; rw [← Ny101.out] at ho8)); have HO103 := Aside0.mk (Kd.R_lower ho8 (below_size (hb_ HB))); replace HB := bs_ HB hb; clear hb ho8; obtain ⟨Ao9, co9, eo9⟩ := Kd.R_slice HO103.out; subst eo9) | ((with_reducible refine gate_dst (N := 1) rfl ?_); (try (refine gate_guard (by rfl) ?_; dsimp only)); refine be_ (N := 1) (cs := #[.int .i64 0, .slice none 0 0]) (t := 58) (h := ?_); intro gb104 hg w10 hbox hb; have BK104 := Aside0.mk (hbox); have GW104 := gw_ HB hg; have GE104 := gw_ HB hg; replace HO103 := Aside0.mk (Kd.R_below (rw_ HO103.out) hb); replace HB := bs_ HB hb; clear hb hbox hg; obtain ⟨hcz11_0, hcz11_1, hfz11_0, hfz11_1⟩ := bc2_ BK104) | ((with_reducible refine gate_callee (f := 56) rfl ?_); refine ge_ (some 6) rfl rfl Try.func56 (by kernel_rfl) rfl #[.agg #[.int .i64 1, .slice Ao9 y101.length co9], .int .i64 3] rfl (h := ?_); (with_reducible refine (fall_Nth.calls 1 _ _ y101 3 t105 t106 _ ?side1 ?side2 A1.out).mono ?_); (case side1 => refine (Kd.R_reads' (e := 3) (base := w.heap.size) (ok := fun k_ => True) (n := y101.length) (c := co9) ?_).2.2; exact (by (with_reducible repeat (first | apply Kd.R_alloc | apply Kd.R_drewN | apply Kd.R_drew)); exact (Kd.R_mono (rf_ (Kd.R_types HO103.out BK104.out (by decide)) (fun _ hk => hk.2)) (fun _ h_ => h_.1)))); (case side2 => exact (Kd.R_reads' HO103.out).2.1); rintro e w12 ⟨v107, rfl, ho0, hb⟩; refine ⟨_, rfl, ?_⟩; have HO108 := Aside0.mk (Kd.R_lower (Kd.R_new' ho0 (Kd.R_lt (by (with_reducible repeat (first | apply Kd.R_alloc | apply Kd.R_drewN | apply Kd.R_drew)); exact (Kd.R_mono (rf_ (Kd.R_types HO103.out BK104.out (by decide)) (fun _ hk => hk.2)) (fun _ h_ => h_.1))))) (below_size (hb_ HB))); replace HO103 := Aside0.mk (Kd.R_elder' (by (with_reducible repeat (first | apply Kd.R_alloc | apply Kd.R_drewN | apply Kd.R_drew)); exact (Kd.R_mono (rf_ (Kd.R_types HO103.out BK104.out (by decide)) (fun _ hk => hk.2)) (fun _ h_ => h_.1))) (Kd.R_base ho0) hb); replace HB := bs_ HB hb; replace BK104 := Aside0.mk (blk_below (g := gb104) (o := .cells #[.int .i64 1, .slice Ao9 y101.length co9] 58 (0, 0)) (bp_ BK104.out) hb); (try clear hb); (try clear hb2); (try clear hk); (try clear hi); (try clear ho0)) | ((with_reducible refine gate_dst (N := 2) rfl ?_); (try (refine gate_guard (by rfl) ?_; dsimp only)); refine be_ (N := 2) (cs := #[.int .i64 0, .slice none 0 0]) (t := 58) (h := ?_); intro gb109 hg w13 hbox hb; have BK109 := Aside0.mk (hbox); have GW109 := gw_ HB hg; have GE109 := gw_ HB hg; have NB104_109 := ne_ BK104 hg; have NB109_104 := en_ BK104 hg; replace HO103 := Aside0.mk (Kd.R_below (rw_ HO103.out) hb); replace HO108 := Aside0.mk (Kd.R_below (rw_ HO108.out) hb); replace BK104 := bb_ BK104 hb; replace HB := bs_ HB hb; clear hb hbox hg; have hnb14 := NB109_104.out; have hnc14 := NB104_109.out; obtain ⟨hcz15_0, hcz15_1, hfz15_0, hfz15_1⟩ := bc2_ BK109; obtain ⟨Ao16, co16, eo16⟩ := Kd.R_slice HO108.out; subst eo16; obtain ⟨hcz17_0, hcz17_1, hfz17_0, hfz17_1⟩ := bc2_ BK104) | ((with_reducible refine gate_callee (f := 54) rfl ?_); refine ge_ (some 8) rfl rfl Try.func54 (by kernel_rfl) rfl #[.agg #[.int .i64 1, .slice Ao9 y101.length co9]] rfl (h := ?_); (with_reducible refine (fall_Count.calls 1 _ _ y101 t110 _ ?side1 ?side2 A2.out).mono ?_); (case side1 => refine (Kd.R_reads' (e := 3) (base := w.heap.size) (ok := fun k_ => (True ∧ some k_ ≠ (.slice Ao16 t106.length co16 : Value).ownBlock)) (n := y101.length) (c := co9) ?_).2.2; exact (by (with_reducible repeat (first | apply Kd.R_alloc | apply Kd.R_drewN | apply Kd.R_drew)); exact (Kd.R_mono (rf_ (Kd.R_types HO103.out BK109.out (by decide)) (fun _ hk => hk.2)) (fun _ h_ => h_.1)))); (case side2 => exact (Kd.R_reads' HO103.out).2.1); rintro e w18 ⟨rfl, hb⟩; refine ⟨_, rfl, ?_⟩; replace HO103 := Aside0.mk (Kd.R_below (by (with_reducible repeat (first | apply Kd.R_alloc | apply Kd.R_drewN | apply Kd.R_drew)); exact (Kd.R_mono (rf_ (Kd.R_types HO103.out BK109.out (by decide)) (fun _ hk => hk.2)) (fun _ h_ => h_.1))) hb); replace HO108 := Aside0.mk (Kd.R_below (by (with_reducible repeat (first | apply Kd.R_alloc | apply Kd.R_drewN | apply Kd.R_drew)); exact (Kd.R_mono (rf_ (Kd.R_types HO108.out BK109.out (by decide)) (fun _ hk => hk.2)) (fun _ h_ => h_.1))) hb); replace BK104 := Aside0.mk (blk_below (g := gb104) (o := .cells #[.int .i64 1, .slice Ao9 y101.length co9] 58 (0, 0)) (bp_ BK104.out) hb); replace HB := bs_ HB hb; replace BK109 := Aside0.mk (blk_below (g := gb109) (o := .cells #[.int .i64 t105, .slice Ao16 t106.length co16] 58 (0, 0)) (bp_ BK109.out) hb); (try clear hb); (try clear hb2); (try clear hk); (try clear hi); obtain ⟨hcz19_0, hcz19_1, hfz19_0, hfz19_1⟩ := bc2_ BK109; have p111 : 0 ≤ (0 : Int) := (by omega); have q111 : 0 < (t106.length : Int) := of_decide_eq_true as_; obtain ⟨ad111, e111, hx111_0⟩ := Kd.at_int (Kd.R_reads' HO108.out).2.2 0 p111 q111; cases e111; have qi111 : (0 < t106.length) = True := eq_true (by omega); (try rw [show ((0 : Int)).toNat = 0 from rfl] at hx111_0); (try rw [Addr.add_zero'] at hx111_0); replace p111 := eq_true p111; replace q111 := eq_true q111))
     go_ret
     exact ⟨er_, hb_ HB⟩
    ·rw [if_neg c6] at H
     exact absurd H (by simp)
   ·rw [if_neg c5] at H
    have c5b0 : ((t106.length : Int) == 1) = false := beq_eq_false_iff_ne.mpr c5
    have c5b1 : ((t106.length : Int) != 1) = true := bne_iff_ne.mpr c5
    exact nf_ H hr_
  ·rw [if_neg c4] at H
   have c4b0 : (t105 == 1) = false := beq_eq_false_iff_ne.mpr c4
   have c4b1 : (t105 != 1) = true := bne_iff_ne.mpr c4
   exact nf_ H hr_
 ·rw [if_neg c3] at H
  have c3b0 : (t110 == 6) = false := beq_eq_false_iff_ne.mpr c3
  have c3b1 : (t110 != 6) = true := bne_iff_ne.mpr c3
  exact nf_ H hr_
/-! ### calamusref01_Same: function 26 -/
def calamusref01_Same.l0 : Nat → List Int → List Int → Int → Option (Bool)
 | 0, _, _, _ => none
 | k + 1, x0, x1, x5 => if x5 < (x0.length : Int) then (if 0 ≤ x5 then (if x5 < (x1.length : Int) then (if (rd x0 x5) = (rd x1 x5) then (calamusref01_Same.l0 k x0 x1 (wrap64 (x5 + 1))) else (some false)) else (none)) else (none)) else (some true)
def calamusref01_Same.f (k : Nat) (l0 : List Int) (l1 : List Int) : Option (Bool) := if (l0.length : Int) = (l1.length : Int) then (calamusref01_Same.l0 k l0 l1 0) else (some false)
theorem calamusref01_Same.mono_l : ∀ k, (∀ y0 y1 y2, LeO (calamusref01_Same.l0 k y0 y1 y2) (calamusref01_Same.l0 (k + 1) y0 y1 y2))
 | 0 => fun _ _ _ r h => by simp [calamusref01_Same.l0] at h
 | k + 1 => by
  have ih0 := calamusref01_Same.mono_l k
  ·intro y0 y1 y2
   unfold calamusref01_Same.l0
   repeat' first
   | (with_reducible exact ih0 _ _ _)
   | (with_reducible exact LeO.refl _)
   | (with_reducible exact LeO.none _)
   | (with_reducible refine LeO.ite ?_ ?_)
   | (with_reducible refine LeO.bind ?_ (fun _ => ?_))
   | exact ih0 _ _ _
   | exact LeO.none _
   | refine LeO.ite ?_ ?_
   | refine LeO.bind ?_ (fun _ => ?_)
theorem calamusref01_Same.mono : ∀ a0 a1 k, LeO (calamusref01_Same.f k a0 a1) (calamusref01_Same.f (k + 1) a0 a1) := by
 intro a0 a1 k
 have ih0 := calamusref01_Same.mono_l k
 unfold calamusref01_Same.f
 repeat' first
   | (with_reducible exact ih0 _ _ _)
   | (with_reducible exact LeO.refl _)
   | (with_reducible exact LeO.none _)
   | (with_reducible refine LeO.ite ?_ ?_)
   | (with_reducible refine LeO.bind ?_ (fun _ => ?_))
   | exact ih0 _ _ _
   | exact LeO.none _
   | refine LeO.ite ?_ ?_
   | refine LeO.bind ?_ (fun _ => ?_)
set_option maxHeartbeats 8000000 in
set_option maxRecDepth 100000 in
theorem calamusref01_Same.calls (k : Nat) (A0 : Option Addr) (c0 : Nat) (l0 : List Int) (A1 : Option Addr) (c1 : Nat) (l1 : List Int) (r : Bool) (w : World) (hr0 : Kd.C (Kd.int .i64) w A0 l0.length l0) (hc0 : l0.length ≤ c0) (hr1 : Kd.C (Kd.int .i64) w A1 l1.length l1) (hc1 : l1.length ≤ c1) (h : calamusref01_Same.f k l0 l1 = some r) :
  Calls Try.prog 26 #[.slice A0 l0.length c0, .slice A1 l1.length c1] w fun e w' => e = .returned (.bool r) ∧ Drawn0 w w' := by
 have HR0 := Aside0.mk hr0
 have HC0 := Aside0.mk hc0
 clear hr0 hc0
 have HR1 := Aside0.mk hr1
 have HC1 := Aside0.mk hc1
 clear hr1 hc1
 have H : (if (l0.length : Int) = (l1.length : Int) then (calamusref01_Same.l0 k l0 l1 0) else (some false)) = some r := h
 clear h
 by_cases c3 : (l0.length : Int) = (l1.length : Int)
 ·rw [if_pos c3] at H
  have c3b0 : ((l0.length : Int) == (l1.length : Int)) = true := beq_iff_eq.mpr c3
  have c3b1 : ((l0.length : Int) != (l1.length : Int)) = false := bne_eq_false_iff_eq.mpr c3
  have c3b2 : (l0.length == l1.length) = true := by first | simpa using c3 | (simp at c3 ⊢; omega)
  clear c3
  have H' := Aside0.mk H
  clear H
  go_enter Try.func26, Try.ntmps26
  go_wp2
  repeat (go_quiet (fail); try go_wp2)
  go_loopg [5] k (fun kq v5 w' => ∃ (x5_1 : Int), v5 = .int .i64 x5_1 ∧ Aside0 (calamusref01_Same.l0 kq l0 l1 x5_1 = some r) ∧ Aside0 (kq ≤ k) ∧ Drawn0 w w')
  case atStart => exact ⟨(0), es_, H', ⟨Nat.le_refl _⟩, by repeat (first | exact Drawn0.refl _ | apply Drawn0.step)⟩
  case round =>
   clear H'
   try clear c3
   try clear c3b0
   try clear c3b1
   try clear c3b2
   obtain ⟨x5_1, rfl, HA, HK1, ⟨m1, rfl⟩⟩ := hrel
   cases gk with
   | zero => exact absurd HA.out (by simp [calamusref01_Same.l0])
   | succ k1 =>
    have H := HA.out
    clear HA
    simp only [calamusref01_Same.l0] at H
    by_cases c4 : x5_1 < (l0.length : Int)
    ·rw [if_pos c4] at H
     have c4b0 : decide (x5_1 < (l0.length : Int)) = true := decide_eq_true c4
     clear c4
     by_cases c5 : 0 ≤ x5_1
     ·rw [if_pos c5] at H
      have c5b0 : decide (0 ≤ x5_1) = true := decide_eq_true c5
      clear c5
      by_cases c6 : x5_1 < (l1.length : Int)
      ·rw [if_pos c6] at H
       have c6b0 : decide (x5_1 < (l1.length : Int)) = true := decide_eq_true c6
       clear c6
       by_cases c7 : (rd l0 x5_1) = (rd l1 x5_1)
       ·rw [if_pos c7] at H
        have c7b0 : ((rd l0 x5_1) == (rd l1 x5_1)) = true := beq_iff_eq.mpr c7
        have c7b1 : ((rd l0 x5_1) != (rd l1 x5_1)) = false := bne_eq_false_iff_eq.mpr c7
        clear c7
        have H' := Aside0.mk H
        clear H
        have p112 : 0 ≤ (x5_1 : Int) := of_decide_eq_true as_
        have q112 : x5_1 < (l0.length : Int) := of_decide_eq_true as_
        obtain ⟨ad112, e112, hx112_0⟩ := Kd.at_int HR0.out x5_1 p112 q112
        cases e112
        replace p112 := eq_true p112
        replace q112 := eq_true q112
        have p113 : 0 ≤ (x5_1 : Int) := of_decide_eq_true as_
        have q113 : x5_1 < (l1.length : Int) := of_decide_eq_true as_
        obtain ⟨ad113, e113, hx113_0⟩ := Kd.at_int HR1.out x5_1 p113 q113
        cases e113
        replace p113 := eq_true p113
        replace q113 := eq_true q113
        go_wp2
        repeat (go_quiet (fail); try go_wp2)
        go_roundg k1
        case measure => have := HK1.out; omega
        case rel => exact ⟨(wrap64 (x5_1 + 1)), es_, H', ⟨by have := HK1.out; omega⟩, by repeat (first | exact Drawn0.refl _ | apply Drawn0.step)⟩
       ·rw [if_neg c7] at H
        have c7b0 : ((rd l0 x5_1) == (rd l1 x5_1)) = false := beq_eq_false_iff_ne.mpr c7
        have c7b1 : ((rd l0 x5_1) != (rd l1 x5_1)) = true := bne_iff_ne.mpr c7
        obtain rfl := Option.some.inj H
        have p112 : 0 ≤ (x5_1 : Int) := of_decide_eq_true as_
        have q112 : x5_1 < (l0.length : Int) := of_decide_eq_true as_
        obtain ⟨ad112, e112, hx112_0⟩ := Kd.at_int HR0.out x5_1 p112 q112
        cases e112
        replace p112 := eq_true p112
        replace q112 := eq_true q112
        have p113 : 0 ≤ (x5_1 : Int) := of_decide_eq_true as_
        have q113 : x5_1 < (l1.length : Int) := of_decide_eq_true as_
        obtain ⟨ad113, e113, hx113_0⟩ := Kd.at_int HR1.out x5_1 p113 q113
        cases e113
        replace p113 := eq_true p113
        replace q113 := eq_true q113
        go_wp2
        repeat (go_quiet (fail); try go_wp2)
        go_ret
        exact ⟨by first | rfl | (simp; done) | (simp [*]; done), by repeat (first | exact Drawn0.refl _ | apply Drawn0.step)⟩
      ·rw [if_neg c6] at H
       exact absurd H (by simp)
     ·rw [if_neg c5] at H
      exact absurd H (by simp)
    ·rw [if_neg c4] at H
     have c4b0 : decide (x5_1 < (l0.length : Int)) = false := decide_eq_false c4
     clear c4
     obtain rfl := Option.some.inj H
     go_wp2
     repeat (go_quiet (fail); try go_wp2)
     go_ret
     exact ⟨by first | rfl | (simp; done) | (simp [*]; done), by repeat (first | exact Drawn0.refl _ | apply Drawn0.step)⟩
 ·rw [if_neg c3] at H
  have c3b0 : ((l0.length : Int) == (l1.length : Int)) = false := beq_eq_false_iff_ne.mpr c3
  have c3b1 : ((l0.length : Int) != (l1.length : Int)) = true := bne_iff_ne.mpr c3
  have c3b2 : (l0.length == l1.length) = false := by first | simpa using c3 | (simp at c3 ⊢; omega)
  obtain rfl := Option.some.inj H
  go_enter Try.func26, Try.ntmps26
  go_wp2
  repeat (go_quiet (fail); try go_wp2)
  go_ret
  exact ⟨by first | rfl | (simp; done) | (simp [*]; done), by repeat (first | exact Drawn0.refl _ | apply Drawn0.step)⟩

/-! ### calamuslaw32_same: function 51 -/
def calamuslaw32_same.f (k : Nat) (a0_0 : Int) (l0_1 : List Int) (a1_0 : Int) (l1_1 : List Int) : Option (Bool) := if a0_0 = a1_0 then ((calamusref01_Same.f k l0_1 l1_1).bind fun t116 => (some t116)) else (some false)
theorem calamuslaw32_same.mono : ∀ a0 a1 a2 a3 k, LeO (calamuslaw32_same.f k a0 a1 a2 a3) (calamuslaw32_same.f (k + 1) a0 a1 a2 a3) := by
 intro a0 a1 a2 a3 k
 unfold calamuslaw32_same.f
 repeat' first
   | (with_reducible exact calamusref01_Same.mono _ _ _)
   | (with_reducible exact LeO.refl _)
   | (with_reducible exact LeO.none _)
   | (with_reducible refine LeO.ite ?_ ?_)
   | (with_reducible refine LeO.bind ?_ (fun _ => ?_))
   | exact calamusref01_Same.mono _ _ _
   | exact LeO.none _
   | refine LeO.ite ?_ ?_
   | refine LeO.bind ?_ (fun _ => ?_)
set_option maxHeartbeats 8000000 in
set_option maxRecDepth 100000 in
theorem calamuslaw32_same.calls (k : Nat) (a0_0 : Int) (A0_1 : Option Addr) (c0_1 : Nat) (l0_1 : List Int) (a1_0 : Int) (A1_1 : Option Addr) (c1_1 : Nat) (l1_1 : List Int) (r : Bool) (w : World) (hr0_1 : Kd.C (Kd.int .i64) w A0_1 l0_1.length l0_1) (hc0_1 : l0_1.length ≤ c0_1) (hr1_1 : Kd.C (Kd.int .i64) w A1_1 l1_1.length l1_1) (hc1_1 : l1_1.length ≤ c1_1) (h : calamuslaw32_same.f k a0_0 l0_1 a1_0 l1_1 = some r) :
  Calls Try.prog 51 #[.agg #[.int .i64 a0_0, .slice A0_1 l0_1.length c0_1], .agg #[.int .i64 a1_0, .slice A1_1 l1_1.length c1_1]] w fun e w' => e = .returned (.bool r) ∧ Below w.heap.size w w' := by
 have hu58 := Try.underlying58
 have hu57 := Try.underlying57
 have HR0_1 := Aside0.mk hr0_1
 have HC0_1 := Aside0.mk hc0_1
 clear hr0_1 hc0_1
 have HR1_1 := Aside0.mk hr1_1
 have HC1_1 := Aside0.mk hc1_1
 clear hr1_1 hc1_1
 have HB := Aside0.mk (Below.refl w.heap.size w)
 have H : (if a0_0 = a1_0 then ((calamusref01_Same.f k l0_1 l1_1).bind fun t116 => (some t116)) else (some false)) = some r := h
 clear h
 by_cases c3 : a0_0 = a1_0
 ·rw [if_pos c3] at H
  have c3b0 : (a0_0 == a1_0) = true := beq_iff_eq.mpr c3
  have c3b1 : (a0_0 != a1_0) = false := bne_eq_false_iff_eq.mpr c3
  clear c3
  replace H := Option.bind_eq_some_iff.mp H
  obtain ⟨t116, A40, H⟩ := H
  replace H : (some t116) = some r := H
  have A4 := Aside0.mk A40
  clear A40
  obtain rfl := Option.some.inj H
  go_enter Try.func51, Try.ntmps51
  go_wp2_with (first | ((with_reducible refine gate_dst (N := 2) rfl ?_); refine be_ (N := 2) (cs := #[.int .i64 a0_0, .slice A0_1 l0_1.length c0_1]) (t := 58) (h := ?_); intro gb114 hg w5 hbox hb; have BK114 := Aside0.mk (hbox); have GW114 := gw_ HB hg; have GE114 := gw_ HB hg; replace HB := bs_ HB hb; clear hb hbox hg) | ((with_reducible refine gate_dst (N := 3) rfl ?_); refine be_ (N := 3) (cs := #[.int .i64 a1_0, .slice A1_1 l1_1.length c1_1]) (t := 57) (h := ?_); intro gb115 hg w6 hbox hb; have BK115 := Aside0.mk (hbox); have GW115 := gw_ HB hg; have GE115 := gw_ HB hg; have NB114_115 := ne_ BK114 hg; have NB115_114 := en_ BK114 hg; replace BK114 := bb_ BK114 hb; replace HB := bs_ HB hb; clear hb hbox hg; have hnb7 := NB114_115.out; have hnc7 := NB115_114.out; obtain ⟨hcz8_0, hcz8_1, hfz8_0, hfz8_1⟩ := bc2_ BK114; obtain ⟨hcz9_0, hcz9_1, hfz9_0, hfz9_1⟩ := bc2_ BK115) | (go_at_call 26; (with_reducible refine (calamusref01_Same.calls k _ _ l0_1 _ _ l1_1 t116 _ ?side1 ?side2 ?side3 ?side4 A4.out).mono ?_); (case side1 => exact cw_ (Kd.C_below HR0_1.out HB.out)); (case side2 => exact HC0_1.out); (case side3 => exact cw_ (Kd.C_below HR1_1.out HB.out)); (case side4 => exact HC1_1.out); rintro e w' ⟨rfl, ⟨nd, rfl⟩⟩))
  go_ret
  exact ⟨er_, hb_ HB⟩
 ·rw [if_neg c3] at H
  have c3b0 : (a0_0 == a1_0) = false := beq_eq_false_iff_ne.mpr c3
  have c3b1 : (a0_0 != a1_0) = true := bne_iff_ne.mpr c3
  obtain rfl := Option.some.inj H
  go_enter Try.func51, Try.ntmps51
  go_wp2_with (first | ((with_reducible refine gate_dst (N := 2) rfl ?_); refine be_ (N := 2) (cs := #[.int .i64 a0_0, .slice A0_1 l0_1.length c0_1]) (t := 58) (h := ?_); intro gb114 hg w10 hbox hb; have BK114 := Aside0.mk (hbox); have GW114 := gw_ HB hg; have GE114 := gw_ HB hg; replace HB := bs_ HB hb; clear hb hbox hg) | ((with_reducible refine gate_dst (N := 3) rfl ?_); refine be_ (N := 3) (cs := #[.int .i64 a1_0, .slice A1_1 l1_1.length c1_1]) (t := 57) (h := ?_); intro gb115 hg w11 hbox hb; have BK115 := Aside0.mk (hbox); have GW115 := gw_ HB hg; have GE115 := gw_ HB hg; have NB114_115 := ne_ BK114 hg; have NB115_114 := en_ BK114 hg; replace BK114 := bb_ BK114 hb; replace HB := bs_ HB hb; clear hb hbox hg; have hnb12 := NB114_115.out; have hnc12 := NB115_114.out; obtain ⟨hcz13_0, hcz13_1, hfz13_0, hfz13_1⟩ := bc2_ BK114; obtain ⟨hcz14_0, hcz14_1, hfz14_0, hfz14_1⟩ := bc2_ BK115))
  go_ret
  exact ⟨er_, hb_ HB⟩

/-! ### calamusref32_flat: function 75 -/
def calamusref32_flat.f (a0_0 : Int) (l0_1 : List Int) : Option (List Int) := (some (([a0_0] : List Int) : List Int)).bind fun y118 => (if y118.length + l0_1.length < 17592186044416 then (some (y118 ++ l0_1)) else (none))
set_option maxHeartbeats 8000000 in
set_option maxRecDepth 100000 in
theorem calamusref32_flat.calls (a0_0 : Int) (A0_1 : Option Addr) (c0_1 : Nat) (l0_1 : List Int) (r : List Int) (w : World) (hr0_1 : Kd.C (Kd.int .i64) w A0_1 l0_1.length l0_1) (hc0_1 : l0_1.length ≤ c0_1) (h : calamusref32_flat.f a0_0 l0_1 = some r) :
  Calls Try.prog 75 #[.agg #[.int .i64 a0_0, .slice A0_1 l0_1.length c0_1]] w fun e w' => ∃ v0_ : Value, e = .returned (v0_) ∧ Kd.R (Kd.int .i64) 3 w' w.heap.size (fun _ => True) v0_ r ∧ Below w.heap.size w w' := by
 have hu57 := Try.underlying57
 have HR0_1 := Aside0.mk hr0_1
 have HC0_1 := Aside0.mk hc0_1
 clear hr0_1 hc0_1
 have HB := Aside0.mk (Below.refl w.heap.size w)
 have H : ((some (([a0_0] : List Int) : List Int)).bind fun y118 => (if y118.length + l0_1.length < 17592186044416 then (some (y118 ++ l0_1)) else (none))) = some r := h
 clear h
 obtain ⟨y118, hy118⟩ : ∃ y_ : List Int, y_ = (([a0_0] : List Int)) := ⟨_, rfl⟩
 replace H : (if y118.length + l0_1.length < 17592186044416 then (some (y118 ++ l0_1)) else (none)) = some r := th_ H hy118
 have Ny118 := Aside0.mk hy118
 clear hy118
 by_cases c2 : y118.length + l0_1.length < 17592186044416
 ·rw [if_pos c2] at H
  have LMc2 := Aside0.mk c2
  clear c2
  obtain ⟨y121, hy121⟩ : ∃ y_ : List Int, y_ = (y118 ++ l0_1) := ⟨_, rfl⟩
  replace H : (some y121) = some r := th_ H hy121
  have Ny121 := Aside0.mk hy121
  clear hy121
  obtain rfl := Option.some.inj H
  go_enter Try.func75, Try.ntmps75
  go_wp2_with (first | ((with_reducible refine gate_dst (N := 1) rfl ?_); refine be_ (N := 1) (cs := #[.int .i64 a0_0, .slice A0_1 l0_1.length c0_1]) (t := 57) (h := ?_); intro gb117 hg w3 hbox hb; have BK117 := Aside0.mk (hbox); have GW117 := gw_ HB hg; have GE117 := gw_ HB hg; replace HB := bs_ HB hb; clear hb hbox hg; obtain ⟨hcz4_0, hcz4_1, hfz4_0, hfz4_1⟩ := bc2_ BK117) | ((with_reducible refine gate_dst (N := 6) rfl ?_); refine Kd.R_lit (Kd.int .i64) _ 3 ?hg (N := 6) ?hd (xs := ([a0_0] : List Int)) (inner := [.int .i64 a0_0]) (ok := fun _ => True) (okp := fun _ => True) ?hr ?hp (fun _ hk => hk) trivial (Below.refl _ _) (Nat.le_refl _) (by simp) ?_; (case hd => rfl); (case hg => rfl); (case hr => first | (go_simp; done) | (go_simp; rfl)); (case hp => exact (Reps.one (show Kd.M (Kd.int .i64) _ _ _ a0_0 [.int .i64 a0_0] from rfl) (Reps.none _ _))); intro v119 w5 ho6 hb hg_ hnew_; clear hg_ hnew_; (first | rw [← Ny118.out] at ho6 | (simp only [Int.reduceToNat] at ho6; rw [← Ny118.out] at ho6)); have HO120 := Aside0.mk (Kd.R_lower ho6 (below_size (hb_ HB))); replace BK117 := bb_ BK117 hb; replace HB := bs_ HB hb; clear hb ho6; obtain ⟨hcz7_0, hcz7_1, hfz7_0, hfz7_1⟩ := bc2_ BK117) | ((with_reducible refine gate_builtin (b := .append) (xs := #[.tmp 7, .tmp 9]) rfl ?_); at_builtin; refine Kd.R_append_rows (Kd.int .i64) (w0 := w) w.heap.size rfl (.tmp 7) (.tmp 9) 22 3 (.int .i64 0) 8 rfl Try.underlying22 info3 rfl (by decide) (by omega) v119 y118 l0_1 _ _ _ (fun _ => True) (fun _ => False) rfl rfl ?aO ?aR (fun _ _ h => h) (fun _ h => h.elim) ?aF ?aB ?aS ?aL ?_; (case aR => repeat (first | exact (Kd.C_below HR0_1.out HB.out) | (with_reducible refine Kd.C_alloc ?_ _) | (with_reducible refine Kd.C_drewN ?_ _) | (with_reducible refine Kd.C_drew ?_))); (case aB => exact (hb_ HB)); (case aF => exact (fun _ _ => trivial)); (case aO => exact (rw_ HO120.out)); (case aS => exact (below_size (hb_ HB))); (case aL => have := LMc2.out; omega); intro v122 w8 ho hb hg hat; rw [← Ny121.out] at ho; have n0_ := Aside0.mk (blk_grown (g := gb117) (o := .cells #[.int .i64 a0_0, .slice A0_1 l0_1.length c0_1] 57 (0, 0)) (bw_ BK117.out) hg (Kd.R_ne HO120.out BK117.out (by decide))); have n1_ := Aside0.mk (hb); have n2_ := Aside0.mk (ho); clear BK117; clear HB; clear HO120; have BK117 := n0_; have HB := n1_; have HO123 := n2_; clear n0_ n1_ n2_; clear ho hb hg hat))
  go_ret
  exact ⟨_, er_, by (with_reducible repeat (first | apply Kd.R_alloc | apply Kd.R_drewN | apply Kd.R_drew)); exact HO123.out, hb_ HB⟩
 ·rw [if_neg c2] at H
  exact absurd H (by simp)

/-! ### calamusref32_right: function 74 -/
def calamusref32_right.l0 : Nat → List Int → Int → Option (Bool)
 | 0, _, _ => none
 | k + 1, x3, x4 => if x4 < (x3.length : Int) then (if 0 ≤ x4 then (if (rd x3 x4) < 0 then (some false) else (if (rd x3 x4) > 1073741824 then (some false) else (calamusref32_right.l0 k x3 (wrap64 (x4 + 1))))) else (none)) else (some true)
def calamusref32_right.f (k : Nat) (a0_0 : Int) (l0_1 : List Int) : Option (Bool) := (calamusref32_flat.f a0_0 l0_1).bind fun t125 => (calamusref32_right.l0 k t125 0)
theorem calamusref32_right.mono_l : ∀ k, (∀ y0 y1, LeO (calamusref32_right.l0 k y0 y1) (calamusref32_right.l0 (k + 1) y0 y1))
 | 0 => fun _ _ r h => by simp [calamusref32_right.l0] at h
 | k + 1 => by
  have ih0 := calamusref32_right.mono_l k
  ·intro y0 y1
   unfold calamusref32_right.l0
   repeat' first
   | (with_reducible exact ih0 _ _)
   | (with_reducible exact LeO.refl _)
   | (with_reducible exact LeO.none _)
   | (with_reducible refine LeO.ite ?_ ?_)
   | (with_reducible refine LeO.bind ?_ (fun _ => ?_))
   | exact ih0 _ _
   | exact LeO.none _
   | refine LeO.ite ?_ ?_
   | refine LeO.bind ?_ (fun _ => ?_)
theorem calamusref32_right.mono : ∀ a0 a1 k, LeO (calamusref32_right.f k a0 a1) (calamusref32_right.f (k + 1) a0 a1) := by
 intro a0 a1 k
 have ih0 := calamusref32_right.mono_l k
 unfold calamusref32_right.f
 repeat' first
   | (with_reducible exact ih0 _ _)
   | (with_reducible exact LeO.refl _)
   | (with_reducible exact LeO.none _)
   | (with_reducible refine LeO.ite ?_ ?_)
   | (with_reducible refine LeO.bind ?_ (fun _ => ?_))
   | exact ih0 _ _
   | exact LeO.none _
   | refine LeO.ite ?_ ?_
   | refine LeO.bind ?_ (fun _ => ?_)
set_option maxHeartbeats 8000000 in
set_option maxRecDepth 100000 in
theorem calamusref32_right.calls (k : Nat) (a0_0 : Int) (A0_1 : Option Addr) (c0_1 : Nat) (l0_1 : List Int) (r : Bool) (w : World) (hr0_1 : Kd.C (Kd.int .i64) w A0_1 l0_1.length l0_1) (hc0_1 : l0_1.length ≤ c0_1) (h : calamusref32_right.f k a0_0 l0_1 = some r) :
  Calls Try.prog 74 #[.agg #[.int .i64 a0_0, .slice A0_1 l0_1.length c0_1]] w fun e w' => e = .returned (.bool r) ∧ Below w.heap.size w w' := by
 have hu57 := Try.underlying57
 have HR0_1 := Aside0.mk hr0_1
 have HC0_1 := Aside0.mk hc0_1
 clear hr0_1 hc0_1
 have HB := Aside0.mk (Below.refl w.heap.size w)
 have H : ((calamusref32_flat.f a0_0 l0_1).bind fun t125 => (calamusref32_right.l0 k t125 0)) = some r := h
 clear h
 replace H := Option.bind_eq_some_iff.mp H
 obtain ⟨t125, A20, H⟩ := H
 replace H : (calamusref32_right.l0 k t125 0) = some r := H
 have A2 := Aside0.mk A20
 clear A20
 have H' := Aside0.mk H
 clear H
 go_enter Try.func74, Try.ntmps74
 go_wp2_with (first | ((with_reducible refine gate_dst (N := 1) rfl ?_); refine be_ (N := 1) (cs := #[.int .i64 a0_0, .slice A0_1 l0_1.length c0_1]) (t := 57) (h := ?_); intro gb124 hg w3 hbox hb; have BK124 := Aside0.mk (hbox); have GW124 := gw_ HB hg; have GE124 := gw_ HB hg; replace HB := bs_ HB hb; clear hb hbox hg; obtain ⟨hcz4_0, hcz4_1, hfz4_0, hfz4_1⟩ := bc2_ BK124) | ((with_reducible refine gate_callee (f := 75) rfl ?_); refine ge_ (some 6) rfl rfl Try.func75 (by kernel_rfl) rfl #[.agg #[.int .i64 a0_0, .slice A0_1 l0_1.length c0_1]] rfl (h := ?_); (with_reducible refine (calamusref32_flat.calls a0_0 _ _ l0_1 t125 _ ?side1 ?side2 A2.out).mono ?_); (case side1 => exact cw_ (Kd.C_below HR0_1.out HB.out)); (case side2 => exact HC0_1.out); rintro e w5 ⟨v126, rfl, ho0, hb⟩; refine ⟨_, rfl, ?_⟩; have HO127 := Aside0.mk (Kd.R_lower ho0 (below_size (hb_ HB))); replace BK124 := bb_ BK124 hb; replace HB := bs_ HB hb; (try clear hb); (try clear hb2); (try clear hk); (try clear hi); (try clear ho0)))
 go_loopg [4] k (fun kq v4 w' => ∃ (x4_1 : Int), v4 = .int .i64 x4_1 ∧ Aside0 (calamusref32_right.l0 kq t125 x4_1 = some r) ∧ Aside0 (kq ≤ k) ∧ Aside0 (Kd.R (Kd.int .i64) 3 w' w.heap.size (fun _ => True) v126 t125) ∧ Aside0 (w'.heap[gb124]? = some (.cells #[.int .i64 a0_0, (.slice A0_1 l0_1.length c0_1)] 57 (0, 0))) ∧ Aside0 (Below w.heap.size w w'))
 case atStart => exact ⟨(0), es_, H', ⟨Nat.le_refl _⟩, ⟨rw_ HO127.out⟩, ⟨bw_ BK124.out⟩, ⟨hb_ HB⟩⟩
 case round =>
  clear H'
  try clear hcz4_0
  try clear hcz4_1
  try clear hfz4_0
  try clear hfz4_1
  obtain ⟨x4_1, rfl, HA, HK1, HO_3, BK124, HB⟩ := hrel
  cases gk with
  | zero => exact absurd HA.out (by simp [calamusref32_right.l0])
  | succ k1 =>
   have H := HA.out
   clear HA
   simp only [calamusref32_right.l0] at H
   by_cases c6 : x4_1 < (t125.length : Int)
   ·rw [if_pos c6] at H
    have c6b0 : decide (x4_1 < (t125.length : Int)) = true := decide_eq_true c6
    clear c6
    by_cases c7 : 0 ≤ x4_1
    ·rw [if_pos c7] at H
     have c7b0 : decide (0 ≤ x4_1) = true := decide_eq_true c7
     clear c7
     by_cases c8 : (rd t125 x4_1) < 0
     ·rw [if_pos c8] at H
      have c8b0 : decide ((rd t125 x4_1) < 0) = true := decide_eq_true c8
      clear c8
      obtain rfl := Option.some.inj H
      obtain ⟨Ao9, co9, eo9⟩ := Kd.R_slice HO_3.out
      subst eo9
      have p128 : 0 ≤ (x4_1 : Int) := of_decide_eq_true as_
      have q128 : x4_1 < (t125.length : Int) := of_decide_eq_true as_
      obtain ⟨ad128, e128, hx128_0⟩ := Kd.at_int (Kd.R_reads' HO_3.out).2.2 x4_1 p128 q128
      cases e128
      replace p128 := eq_true p128
      replace q128 := eq_true q128
      go_wp2
      go_ret
      exact ⟨er_, hb_ HB⟩
     ·rw [if_neg c8] at H
      have c8b0 : decide ((rd t125 x4_1) < 0) = false := decide_eq_false c8
      clear c8
      by_cases c10 : (rd t125 x4_1) > 1073741824
      ·rw [if_pos c10] at H
       have c10b0 : decide (1073741824 < (rd t125 x4_1)) = true := decide_eq_true c10
       clear c10
       obtain rfl := Option.some.inj H
       obtain ⟨Ao11, co11, eo11⟩ := Kd.R_slice HO_3.out
       subst eo11
       have p128 : 0 ≤ (x4_1 : Int) := of_decide_eq_true as_
       have q128 : x4_1 < (t125.length : Int) := of_decide_eq_true as_
       obtain ⟨ad128, e128, hx128_0⟩ := Kd.at_int (Kd.R_reads' HO_3.out).2.2 x4_1 p128 q128
       cases e128
       replace p128 := eq_true p128
       replace q128 := eq_true q128
       have p129 : 0 ≤ (x4_1 : Int) := of_decide_eq_true as_
       have q129 : x4_1 < (t125.length : Int) := of_decide_eq_true as_
       obtain ⟨ad129, e129, hx129_0⟩ := Kd.at_int (Kd.R_reads' HO_3.out).2.2 x4_1 p129 q129
       obtain rfl : ad128 = ad129 := (by injection e129)
       replace p129 := eq_true p129
       replace q129 := eq_true q129
       go_wp2
       go_ret
       exact ⟨er_, hb_ HB⟩
      ·rw [if_neg c10] at H
       have c10b0 : decide (1073741824 < (rd t125 x4_1)) = false := decide_eq_false c10
       clear c10
       have H' := Aside0.mk H
       clear H
       obtain ⟨Ao12, co12, eo12⟩ := Kd.R_slice HO_3.out
       subst eo12
       have p128 : 0 ≤ (x4_1 : Int) := of_decide_eq_true as_
       have q128 : x4_1 < (t125.length : Int) := of_decide_eq_true as_
       obtain ⟨ad128, e128, hx128_0⟩ := Kd.at_int (Kd.R_reads' HO_3.out).2.2 x4_1 p128 q128
       cases e128
       replace p128 := eq_true p128
       replace q128 := eq_true q128
       have p129 : 0 ≤ (x4_1 : Int) := of_decide_eq_true as_
       have q129 : x4_1 < (t125.length : Int) := of_decide_eq_true as_
       obtain ⟨ad129, e129, hx129_0⟩ := Kd.at_int (Kd.R_reads' HO_3.out).2.2 x4_1 p129 q129
       obtain rfl : ad128 = ad129 := (by injection e129)
       replace p129 := eq_true p129
       replace q129 := eq_true q129
       go_wp2
       go_roundg k1
       case measure => have := HK1.out; omega
       case rel => exact ⟨(wrap64 (x4_1 + 1)), es_, H', ⟨by have := HK1.out; omega⟩, ⟨rw_ HO_3.out⟩, ⟨bw_ BK124.out⟩, ⟨hb_ HB⟩⟩
    ·rw [if_neg c7] at H
     exact absurd H (by simp)
   ·rw [if_neg c6] at H
    have c6b0 : decide (x4_1 < (t125.length : Int)) = false := decide_eq_false c6
    clear c6
    obtain rfl := Option.some.inj H
    obtain ⟨Ao13, co13, eo13⟩ := Kd.R_slice HO_3.out
    subst eo13
    go_wp2
    go_ret
    exact ⟨er_, hb_ HB⟩

end Go.Proofs.Ytjobaaolohemgaa.PFallChoices
