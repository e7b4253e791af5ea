/- clock.CheckRatio. -/
import Derived.Test.YtcjdmffflepplaaDoorCdig
set_option linter.unusedSimpArgs false
set_option linter.unusedVariables false
namespace Go.Proofs.YtcjdmffflepplaaDoor
open Go.RowKit Go.Dw
noncomputable def formQ (s t : ByteArray) : Bool := goodD (bodyT s) && !(negT s && bodyT s == [48]) && goodD t.data.toList && !(t.data.toList == [48])
/-- CheckRatio -/
noncomputable def chkQ (s t : ByteArray) : Int := if formQ s t = false then 3 else if 2000 < (bodyT s).length ∨ 2000 < t.size then 2 else if Nat.gcd (decV (bodyT s)) (decV t.data.toList) = 1 then 0 else 3
theorem good_dec {l : List UInt8} (h : GoodD l) : Lib.decDigits (decV l) = l := by
  refine decDigits_decV _ l rfl h.1 ?_ ?_
  · intro e
    rcases h.2 with h1 | ⟨c, r, h1, _⟩
    · rw [e] at h1; cases h1
    · rw [e] at h1; cases h1
  · rcases h.2 with h1 | ⟨c, r, h1, h2⟩
    · exact .inl h1
    · exact .inr (by rw [h1]; simpa using h2)
theorem dec_zero : Lib.decDigits 0 = [48] := by rw [Lib.decDigits, dif_pos (by omega)]; rfl
theorem good_pos {l : List UInt8} (h : GoodD l) (h0 : l ≠ [48]) : 0 < decV l := by
  refine Nat.pos_of_ne_zero fun e => h0 ?_
  rw [← good_dec h, e, dec_zero]
theorem beq_toList (s : ByteArray) (l : List UInt8) : (s.toList == l) = (s.data.toList == l) := by rw [ByteArray.toList_eq]
theorem body_size (s : ByteArray) : (bodyT s).length ≤ s.size ∧ s.size ≤ (bodyT s).length + 1 := by
  rw [← len_data]
  unfold bodyT Lib.trimPrefix
  split
  · rw [List.length_drop]; simp; omega
  · omega
set_option maxRecDepth 100000 in
set_option maxHeartbeats 2000000 in
theorem CHECKRATIO_any (s t : ByteArray) (hs : s.size ≤ maxLen) (ht : t.size ≤ maxLen) (w : World) :
    Calls Tryd.prog 10 #[.agg #[.string s, .string t]] w fun e w' => e = .returned (.int .i64 (chkQ s t)) ∧ Below w.heap.size w w' := by
  obtain ⟨W, gx, hW, hgx, HHW, HBW, HSW⟩ := cell_new w 28 #[.string s, .string t]
  have HGX := Lib.hid hgx
  obtain ⟨hc0, hc1, _, _⟩ := two_cells HHW.out
  have hgw := blk_lt HHW.out
  obtain ⟨u, hu⟩ : ∃ u : ByteArray, u = ⟨(bodyT s).toArray⟩ := ⟨_, rfl⟩
  have HU := Lib.hid hu
  have HUD : Hid (u.data.toList = bodyT s) := by show _ = _; rw [hu]
  have husz : u.size ≤ maxLen := by rw [← len_data, HUD.out]; exact Nat.le_trans (body_size s).1 hs
  clear hu
  obtain ⟨b, hb⟩ : ∃ b, negT s = b := ⟨_, rfl⟩
  obtain ⟨g1, hg1⟩ : ∃ b, goodD (bodyT s) = b := ⟨_, rfl⟩
  obtain ⟨g2, hg2⟩ : ∃ b, goodD t.data.toList = b := ⟨_, rfl⟩
  have HBN := Lib.hid hb
  have HG1 : Hid (goodD u.data.toList = g1) := by show _ = _; rw [HUD.out]; exact hg1
  have HG2 := Lib.hid hg2
  have hd0 : (u.toList == [48]) = (bodyT s == [48]) := by rw [beq_toList, HUD.out]
  have hd1 : (t.toList == [48]) = (t.data.toList == [48]) := beq_toList t _
  obtain ⟨e0, he0⟩ : ∃ b, (bodyT s == [48]) = b := ⟨_, rfl⟩
  obtain ⟨e1, he1⟩ : ∃ b, (t.data.toList == [48]) = b := ⟨_, rfl⟩
  have HF : Hid (formQ s t = (g1 && !(b && e0) && g2 && !e1)) := by show _ = _; unfold formQ; rw [hb, hg1, hg2, he0, he1]
  rw [he0] at hd0
  rw [he1] at hd1
  have HE1 := Lib.hid he1
  clear hb hg1 hg2 he0 he1
  have hform : formQ s t = false → Hid (chkQ s t = 3) := fun h => by show _ = _; unfold chkQ; rw [if_pos h]
  cases g1 with
  | false =>
    have HV := hform HF.out
    clear hform
    go_enter Tryd.func10, Tryd.ntmps10
    go_upto_region 1 with (fail)
    rw [← hW, ← hgx]
    clear hW hgx
    go_wp2_with (first
      | (go_at_call 30; refine (CUT_eq HU HBN _).mono ?_; rintro e w1 ⟨rfl, rfl⟩)
      | (go_at_call 31; (with_reducible refine (CDIGITS_any u husz _).mono ?_); rintro e w1 ⟨rfl, rfl⟩; rw [HG1.out])
      | (go_at_call 31; (with_reducible refine (CDIGITS_any t ht _).mono ?_); rintro e w1 ⟨rfl, rfl⟩; rw [HG2.out]))
    go_ret
    exact ⟨by rw [HV.out]; rfl, HBW.out⟩
  | true =>
  cases b with
  | false =>
    cases g2 with
    | false =>
      have HV := hform (by rw [HF.out]; simp)
      clear hform
      go_enter Tryd.func10, Tryd.ntmps10
      go_upto_region 1 with (fail)
      rw [← hW, ← hgx]
      clear hW hgx
      go_wp2_with (first
        | (go_at_call 30; refine (CUT_eq HU HBN _).mono ?_; rintro e w1 ⟨rfl, rfl⟩)
        | (go_at_call 31; (with_reducible refine (CDIGITS_any u husz _).mono ?_); rintro e w1 ⟨rfl, rfl⟩; rw [HG1.out])
        | (go_at_call 31; (with_reducible refine (CDIGITS_any t ht _).mono ?_); rintro e w1 ⟨rfl, rfl⟩; rw [HG2.out]))
      go_ret
      exact ⟨by rw [HV.out]; rfl, HBW.out⟩
    | true =>
    cases e1 with
    | true =>
      have HV := hform (by rw [HF.out]; simp)
      clear hform
      go_enter Tryd.func10, Tryd.ntmps10
      go_upto_region 1 with (fail)
      rw [← hW, ← hgx]
      clear hW hgx
      go_wp2_with (first
        | (go_at_call 30; refine (CUT_eq HU HBN _).mono ?_; rintro e w1 ⟨rfl, rfl⟩)
        | (go_at_call 31; (with_reducible refine (CDIGITS_any u husz _).mono ?_); rintro e w1 ⟨rfl, rfl⟩; rw [HG1.out])
        | (go_at_call 31; (with_reducible refine (CDIGITS_any t ht _).mono ?_); rintro e w1 ⟨rfl, rfl⟩; rw [HG2.out]))
      go_ret
      exact ⟨by rw [HV.out]; rfl, HBW.out⟩
    | false =>
    have HFT : Hid (formQ s t = true) := by show _ = _; rw [HF.out]; simp
    clear hform
    have HUL : Hid (u.size = (bodyT s).length) := by show _ = _; rw [← len_data, HUD.out]
    by_cases hA : 2000 < u.size
    · have HV : Hid (chkQ s t = 2) := by show _ = _; unfold chkQ; rw [if_neg (by rw [HFT.out]; simp), if_pos (.inl (by rw [← HUL.out]; exact hA))]
      go_enter Tryd.func10, Tryd.ntmps10
      go_upto_region 1 with (fail)
      rw [← hW, ← hgx]
      clear hW hgx
      go_wp2_with (first
        | (go_at_call 30; refine (CUT_eq HU HBN _).mono ?_; rintro e w1 ⟨rfl, rfl⟩)
        | (go_at_call 31; (with_reducible refine (CDIGITS_any u husz _).mono ?_); rintro e w1 ⟨rfl, rfl⟩; rw [HG1.out])
        | (go_at_call 31; (with_reducible refine (CDIGITS_any t ht _).mono ?_); rintro e w1 ⟨rfl, rfl⟩; rw [HG2.out]))
      go_ret
      exact ⟨by rw [HV.out]; rfl, HBW.out⟩
    by_cases hC : 2000 < t.size
    · have HV : Hid (chkQ s t = 2) := by show _ = _; unfold chkQ; rw [if_neg (by rw [HFT.out]; simp), if_pos (.inr hC)]
      go_enter Tryd.func10, Tryd.ntmps10
      go_upto_region 1 with (fail)
      rw [← hW, ← hgx]
      clear hW hgx
      go_wp2_with (first
        | (go_at_call 30; refine (CUT_eq HU HBN _).mono ?_; rintro e w1 ⟨rfl, rfl⟩)
        | (go_at_call 31; (with_reducible refine (CDIGITS_any u husz _).mono ?_); rintro e w1 ⟨rfl, rfl⟩; rw [HG1.out])
        | (go_at_call 31; (with_reducible refine (CDIGITS_any t ht _).mono ?_); rintro e w1 ⟨rfl, rfl⟩; rw [HG2.out]))
      go_ret
      exact ⟨by rw [HV.out]; rfl, HBW.out⟩
    have HV : Hid (chkQ s t = if Nat.gcd (parseZ s).natAbs (decV t.data.toList) = 1 then 0 else 3) := by
      show _ = _
      unfold chkQ
      rw [if_neg (by rw [HFT.out]; simp), if_neg (by have := HUL.out; omega), parseZ_abs]
    have hsz : s.size ≤ 2001 := by have := (body_size s).2; have := HUL.out; omega
    have HAD : Hid (AllDig (bodyT s)) := by have := HG1.out; rw [HUD.out] at this; exact (goodD_iff.1 this).1
    have HBD : Hid (AllDig t.data.toList) := (goodD_iff.1 HG2.out).1
    have HPS : Hid (0 < decV t.data.toList) := good_pos (goodD_iff.1 HG2.out) (by rw [← beq_eq_false_iff_ne]; exact HE1.out)
    go_enter Tryd.func10, Tryd.ntmps10
    go_upto_region 1 with (fail)
    rw [← hW, ← hgx]
    clear hW hgx
    go_wp2_with (first
      | (go_at_call 30; refine (CUT_eq HU HBN _).mono ?_; rintro e w1 ⟨rfl, rfl⟩)
      | (go_at_call 31; (with_reducible refine (CDIGITS_any u husz _).mono ?_); rintro e w1 ⟨rfl, rfl⟩; rw [HG1.out])
      | (go_at_call 31; (with_reducible refine (CDIGITS_any t ht _).mono ?_); rintro e w1 ⟨rfl, rfl⟩; rw [HG2.out]))
    refine (QFROM_any s t HAD (by omega) HBD (by omega) _).mono ?_
    rintro e w2 ⟨ng, A, n, c, A', n', c', rfl, h2, k1, k2, hb2⟩
    have H2 := Lib.hid h2
    have HB2 := Lib.hid (HBW.out.trans (hb2.mono HBW.out.size))
    clear h2 hb2
    go_wp2_with fail
    refine (QLOWEST_any ng A A' n c n' c' _ _ HPS.out (by omega) (by omega) _ w2.heap.size (Nat.le_refl _) H2).mono ?_
    rintro e w3 ⟨rfl, hb3⟩
    have HB3 := Lib.hid (HB2.out.trans (hb3.mono HB2.out.size))
    clear hb3
    by_cases hg : Nat.gcd (parseZ s).natAbs (decV t.data.toList) = 1
    · rw [if_pos hg] at HV
      rw [decide_eq_true hg]
      clear hg
      go_wp2_with fail
      go_ret
      exact ⟨by rw [HV.out]; rfl, HB3.out⟩
    · rw [if_neg hg] at HV
      rw [decide_eq_false hg]
      clear hg
      go_wp2_with fail
      go_ret
      exact ⟨by rw [HV.out]; rfl, HB3.out⟩
  | true =>
  cases e0 with
  | true =>
    have HV := hform (by rw [HF.out]; simp)
    clear hform
    go_enter Tryd.func10, Tryd.ntmps10
    go_upto_region 1 with (fail)
    rw [← hW, ← hgx]
    clear hW hgx
    go_wp2_with (first
      | (go_at_call 30; refine (CUT_eq HU HBN _).mono ?_; rintro e w1 ⟨rfl, rfl⟩)
      | (go_at_call 31; (with_reducible refine (CDIGITS_any u husz _).mono ?_); rintro e w1 ⟨rfl, rfl⟩; rw [HG1.out])
      | (go_at_call 31; (with_reducible refine (CDIGITS_any t ht _).mono ?_); rintro e w1 ⟨rfl, rfl⟩; rw [HG2.out]))
    go_ret
    exact ⟨by rw [HV.out]; rfl, HBW.out⟩
  | false =>
    cases g2 with
    | false =>
      have HV := hform (by rw [HF.out]; simp)
      clear hform
      go_enter Tryd.func10, Tryd.ntmps10
      go_upto_region 1 with (fail)
      rw [← hW, ← hgx]
      clear hW hgx
      go_wp2_with (first
        | (go_at_call 30; refine (CUT_eq HU HBN _).mono ?_; rintro e w1 ⟨rfl, rfl⟩)
        | (go_at_call 31; (with_reducible refine (CDIGITS_any u husz _).mono ?_); rintro e w1 ⟨rfl, rfl⟩; rw [HG1.out])
        | (go_at_call 31; (with_reducible refine (CDIGITS_any t ht _).mono ?_); rintro e w1 ⟨rfl, rfl⟩; rw [HG2.out]))
      go_ret
      exact ⟨by rw [HV.out]; rfl, HBW.out⟩
    | true =>
    cases e1 with
    | true =>
      have HV := hform (by rw [HF.out]; simp)
      clear hform
      go_enter Tryd.func10, Tryd.ntmps10
      go_upto_region 1 with (fail)
      rw [← hW, ← hgx]
      clear hW hgx
      go_wp2_with (first
        | (go_at_call 30; refine (CUT_eq HU HBN _).mono ?_; rintro e w1 ⟨rfl, rfl⟩)
        | (go_at_call 31; (with_reducible refine (CDIGITS_any u husz _).mono ?_); rintro e w1 ⟨rfl, rfl⟩; rw [HG1.out])
        | (go_at_call 31; (with_reducible refine (CDIGITS_any t ht _).mono ?_); rintro e w1 ⟨rfl, rfl⟩; rw [HG2.out]))
      go_ret
      exact ⟨by rw [HV.out]; rfl, HBW.out⟩
    | false =>
    have HFT : Hid (formQ s t = true) := by show _ = _; rw [HF.out]; simp
    clear hform
    have HUL : Hid (u.size = (bodyT s).length) := by show _ = _; rw [← len_data, HUD.out]
    by_cases hA : 2000 < u.size
    · have HV : Hid (chkQ s t = 2) := by show _ = _; unfold chkQ; rw [if_neg (by rw [HFT.out]; simp), if_pos (.inl (by rw [← HUL.out]; exact hA))]
      go_enter Tryd.func10, Tryd.ntmps10
      go_upto_region 1 with (fail)
      rw [← hW, ← hgx]
      clear hW hgx
      go_wp2_with (first
        | (go_at_call 30; refine (CUT_eq HU HBN _).mono ?_; rintro e w1 ⟨rfl, rfl⟩)
        | (go_at_call 31; (with_reducible refine (CDIGITS_any u husz _).mono ?_); rintro e w1 ⟨rfl, rfl⟩; rw [HG1.out])
        | (go_at_call 31; (with_reducible refine (CDIGITS_any t ht _).mono ?_); rintro e w1 ⟨rfl, rfl⟩; rw [HG2.out]))
      go_ret
      exact ⟨by rw [HV.out]; rfl, HBW.out⟩
    by_cases hC : 2000 < t.size
    · have HV : Hid (chkQ s t = 2) := by show _ = _; unfold chkQ; rw [if_neg (by rw [HFT.out]; simp), if_pos (.inr hC)]
      go_enter Tryd.func10, Tryd.ntmps10
      go_upto_region 1 with (fail)
      rw [← hW, ← hgx]
      clear hW hgx
      go_wp2_with (first
        | (go_at_call 30; refine (CUT_eq HU HBN _).mono ?_; rintro e w1 ⟨rfl, rfl⟩)
        | (go_at_call 31; (with_reducible refine (CDIGITS_any u husz _).mono ?_); rintro e w1 ⟨rfl, rfl⟩; rw [HG1.out])
        | (go_at_call 31; (with_reducible refine (CDIGITS_any t ht _).mono ?_); rintro e w1 ⟨rfl, rfl⟩; rw [HG2.out]))
      go_ret
      exact ⟨by rw [HV.out]; rfl, HBW.out⟩
    have HV : Hid (chkQ s t = if Nat.gcd (parseZ s).natAbs (decV t.data.toList) = 1 then 0 else 3) := by
      show _ = _
      unfold chkQ
      rw [if_neg (by rw [HFT.out]; simp), if_neg (by have := HUL.out; omega), parseZ_abs]
    have hsz : s.size ≤ 2001 := by have := (body_size s).2; have := HUL.out; omega
    have HAD : Hid (AllDig (bodyT s)) := by have := HG1.out; rw [HUD.out] at this; exact (goodD_iff.1 this).1
    have HBD : Hid (AllDig t.data.toList) := (goodD_iff.1 HG2.out).1
    have HPS : Hid (0 < decV t.data.toList) := good_pos (goodD_iff.1 HG2.out) (by rw [← beq_eq_false_iff_ne]; exact HE1.out)
    go_enter Tryd.func10, Tryd.ntmps10
    go_upto_region 1 with (fail)
    rw [← hW, ← hgx]
    clear hW hgx
    go_wp2_with (first
      | (go_at_call 30; refine (CUT_eq HU HBN _).mono ?_; rintro e w1 ⟨rfl, rfl⟩)
      | (go_at_call 31; (with_reducible refine (CDIGITS_any u husz _).mono ?_); rintro e w1 ⟨rfl, rfl⟩; rw [HG1.out])
      | (go_at_call 31; (with_reducible refine (CDIGITS_any t ht _).mono ?_); rintro e w1 ⟨rfl, rfl⟩; rw [HG2.out]))
    refine (QFROM_any s t HAD (by omega) HBD (by omega) _).mono ?_
    rintro e w2 ⟨ng, A, n, c, A', n', c', rfl, h2, k1, k2, hb2⟩
    have H2 := Lib.hid h2
    have HB2 := Lib.hid (HBW.out.trans (hb2.mono HBW.out.size))
    clear h2 hb2
    go_wp2_with fail
    refine (QLOWEST_any ng A A' n c n' c' _ _ HPS.out (by omega) (by omega) _ w2.heap.size (Nat.le_refl _) H2).mono ?_
    rintro e w3 ⟨rfl, hb3⟩
    have HB3 := Lib.hid (HB2.out.trans (hb3.mono HB2.out.size))
    clear hb3
    by_cases hg : Nat.gcd (parseZ s).natAbs (decV t.data.toList) = 1
    · rw [if_pos hg] at HV
      rw [decide_eq_true hg]
      clear hg
      go_wp2_with fail
      go_ret
      exact ⟨by rw [HV.out]; rfl, HB3.out⟩
    · rw [if_neg hg] at HV
      rw [decide_eq_false hg]
      clear hg
      go_wp2_with fail
      go_ret
      exact ⟨by rw [HV.out]; rfl, HB3.out⟩
end Go.Proofs.YtcjdmffflepplaaDoor
