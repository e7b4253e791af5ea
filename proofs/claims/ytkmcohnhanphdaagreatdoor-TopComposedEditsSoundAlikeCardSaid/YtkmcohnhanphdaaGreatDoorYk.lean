/- clock.digits. -/
import Derived.Test.YtkmcohnhanphdaaGreatDoorYj
set_option linter.unusedSimpArgs false
set_option linter.unusedVariables false
namespace Go.Proofs.YtkmcohnhanphdaaGreatDoor
open Go.RowKit Go.Dw
def GoodD (l : List UInt8) : Prop := AllDig l ∧ (l = [48] ∨ ∃ c r, l = c :: r ∧ c ≠ 48)
noncomputable def goodD (l : List UInt8) : Bool := @decide (GoodD l) (Classical.propDecidable _)
theorem goodD_true {l : List UInt8} (h : GoodD l) : goodD l = true := @decide_eq_true _ (Classical.propDecidable _) h
theorem goodD_false {l : List UInt8} (h : ¬ GoodD l) : goodD l = false := @decide_eq_false _ (Classical.propDecidable _) h
theorem goodD_iff {l : List UInt8} : goodD l = true ↔ GoodD l := @decide_eq_true_iff _ (Classical.propDecidable _)
set_option maxRecDepth 100000 in
set_option maxHeartbeats 2000000 in
theorem CDIGITS_any (s : ByteArray) (hs : s.size ≤ maxLen) (w : World) :
    Calls Tryz.prog 103 #[.string s] w fun e w' => e = .returned (.bool (goodD s.data.toList)) ∧ w = w' := by
  unfold maxLen at hs
  have HLN := Lib.hid (len_data s)
  go_enter Tryz.func103, Tryz.ntmps103
  go_wp2_with fail
  go_loop [6] (fun i => ∃ k : Nat, k ≤ s.size ∧ i = .int .i64 k ∧ Hid (AllDig (s.data.toList.take k))) (fun i => s.size - (intOf i).toNat)
  case atStart => exact ⟨0, Nat.zero_le _, rfl, by show AllDig _; intro c hc; simp at hc⟩
  case round =>
    obtain ⟨k, hk, rfl, HD⟩ := hrel
    by_cases hlt : k < s.size
    · have hby := at_getD s hlt
      have HBY := Lib.hid hby
      have hmem : s.data.toList.getD k 0 ∈ s.data.toList := getD_mem (by rw [len_data]; exact hlt)
      obtain ⟨x, hx⟩ : ∃ x, s[k].toNat = x := ⟨_, rfl⟩
      have HX : Hid ((s.data.toList.getD k 0).toNat = x) := by show _ = _; rw [← hby]; exact hx
      clear hby
      by_cases h1 : 48 ≤ x ∧ x ≤ 57
      · obtain ⟨h1, h2⟩ := h1
        have hd1 : decide ((x : Int) < 48) = false := by simp; omega
        have hd2 : decide ((57 : Int) < (x : Int)) = false := by simp; omega
        go_wp2_with fail
        go_round
        case rel =>
          refine ⟨k + 1, by omega, by go_num, ?_⟩
          show AllDig _
          rw [List.take_succ_eq_append_getElem (by rw [len_data]; exact hlt)]
          intro c hc
          rcases List.mem_append.1 hc with h | h
          · exact HD.out c h
          · simp only [List.mem_singleton] at h
            have e : s.data.toList[k]'(by rw [len_data]; exact hlt) = s.data.toList.getD k 0 := by simp [List.getD, hlt]
            rw [h, e, HX.out]
            exact ⟨h1, h2⟩
        case measure => simp [intOf] <;> omega
      · have HBAD : Hid (goodD s.data.toList = false) := goodD_false fun h => by
          have := h.1 _ hmem
          rw [HX.out] at this
          exact h1 this
        by_cases h3 : x < 48
        · have hd1 : decide ((x : Int) < 48) = true := by simp; omega
          clear h1
          go_wp2_with fail
          go_ret
          exact ⟨by rw [HBAD.out]; rfl, rfl⟩
        · have hd1 : decide ((x : Int) < 48) = false := by simp; omega
          have hd2 : decide ((57 : Int) < (x : Int)) = true := by simp; omega
          clear h1
          go_wp2_with fail
          go_ret
          exact ⟨by rw [HBAD.out]; rfl, rfl⟩
    · have hk9 : k = s.size := by omega
      have HALL : Hid (AllDig s.data.toList) := by
        have := HD.out
        rwa [List.take_of_length_le (by rw [len_data]; omega)] at this
      subst hk9
      clear hk HD
      clear hlt
      have HTL := Lib.hid (ByteArray.toList_eq s)
      by_cases h0 : s.toList = [48]
      · have HG : Hid (goodD s.data.toList = true) := goodD_true ⟨HALL.out, .inl (by rw [← HTL.out, h0])⟩
        have hd0 : (s.toList == [48]) = true := by rw [h0]; rfl
        clear h0
        go_wp2_with fail
        go_ret
        exact ⟨by rw [HG.out]; rfl, rfl⟩
      · have hd0 : (s.toList == [48]) = false := beq_eq_false_iff_ne.2 h0
        by_cases h1 : s.toList = []
        · have HG : Hid (goodD s.data.toList = false) := goodD_false fun h => by
            rw [← HTL.out] at h
            rcases h.2 with h2 | ⟨c, r, h2, _⟩
            · rw [h1] at h2; cases h2
            · rw [h1] at h2; cases h2
          have hd1 : s.toList.isEmpty = true := by rw [h1]; rfl
          clear h0
          go_wp2_with fail
          go_ret
          exact ⟨by rw [HG.out]; rfl, rfl⟩
        · have hd1 : s.toList.isEmpty = false := by simpa using h1
          have hpos : 0 < s.size := by
            rw [← len_data, ← HTL.out]
            exact List.length_pos_iff.2 h1
          have hby := at_getD s hpos
          rw [← HTL.out] at hby
          obtain ⟨c, r, hcr⟩ : ∃ c r, s.toList = c :: r := by cases h : s.toList with | nil => exact absurd h h1 | cons c r => exact ⟨c, r, rfl⟩
          have hcx : s[0] = c := by rw [hby, hcr]; rfl
          obtain ⟨x, hx⟩ : ∃ x, s[0].toNat = x := ⟨_, rfl⟩
          have HX : Hid (c.toNat = x) := by show _ = _; rw [← hcx]; exact hx
          have HCR := Lib.hid hcr
          have H0 := Lib.hid h0
          clear hby hcx hcr h0
          by_cases hx48 : x = 48
          · have HG : Hid (goodD s.data.toList = false) := goodD_false fun h => by
              rw [← HTL.out] at h
              rcases h.2 with h2 | ⟨c', r', h2, h3⟩
              · exact H0.out h2
              · rw [HCR.out] at h2
                cases h2
                refine h3 (UInt8.toNat_inj.1 ?_)
                rw [HX.out, hx48]; rfl
            subst hx48
            go_wp2_with fail
            go_ret
            exact ⟨by rw [HG.out]; rfl, rfl⟩
          · have HG : Hid (goodD s.data.toList = true) := goodD_true ⟨HALL.out, .inr ⟨c, r, by rw [← HTL.out]; exact HCR.out, fun h => hx48 (by rw [← HX.out, h]; rfl)⟩⟩
            have hd2 : ((x : Int) != 48) = true := by simp; omega
            clear hx48
            go_wp2_with fail
            go_ret
            exact ⟨by rw [HG.out]; rfl, rfl⟩
end Go.Proofs.YtkmcohnhanphdaaGreatDoor
/- clock.CheckRatio. -/
namespace Go.Proofs.YtkmcohnhanphdaaGreatDoor
open Go.RowKit Go.Dw
noncomputable def formQ (s t : ByteArray) : Bool := goodD (bodyT s) && !(negT s && bodyT s == [48]) && goodD t.data.toList && !(t.data.toList == [48])
noncomputable def chkQ (s t : ByteArray) : Int := if formQ s t = false then 3 else if 2000 < (bodyT s).length ∨ 2000 < t.size then 2 else if Nat.gcd (decV (bodyT s)) (decV t.data.toList) = 1 then 0 else 3
theorem good_dec {l : List UInt8} (h : GoodD l) : Lib.decDigits (decV l) = l := by
  refine decDigits_decV _ l rfl h.1 ?_ ?_
  · intro e
    rcases h.2 with h1 | ⟨c, r, h1, _⟩
    · rw [e] at h1; cases h1
    · rw [e] at h1; cases h1
  · rcases h.2 with h1 | ⟨c, r, h1, h2⟩
    · exact .inl h1
    · exact .inr (by rw [h1]; simpa using h2)
theorem dec_zero : Lib.decDigits 0 = [48] := by rw [Lib.decDigits, dif_pos (by omega)]; rfl
theorem good_pos {l : List UInt8} (h : GoodD l) (h0 : l ≠ [48]) : 0 < decV l := by
  refine Nat.pos_of_ne_zero fun e => h0 ?_
  rw [← good_dec h, e, dec_zero]
theorem beq_toList (s : ByteArray) (l : List UInt8) : (s.toList == l) = (s.data.toList == l) := by rw [ByteArray.toList_eq]
theorem body_size (s : ByteArray) : (bodyT s).length ≤ s.size ∧ s.size ≤ (bodyT s).length + 1 := by
  rw [← len_data]
  unfold bodyT Lib.trimPrefix
  split
  · rw [List.length_drop]; simp; omega
  · omega
set_option maxRecDepth 100000 in
set_option maxHeartbeats 2000000 in
theorem CHECKRATIO_any (s t : ByteArray) (hs : s.size ≤ maxLen) (ht : t.size ≤ maxLen) (w : World) :
    Calls Tryz.prog 55 #[.agg #[.string s, .string t]] w fun e w' => e = .returned (.int .i64 (chkQ s t)) ∧ Below w.heap.size w w' := by
  obtain ⟨W, gx, hW, hgx, HHW, HBW, HSW⟩ := cell_new w 66 #[.string s, .string t]
  have HGX := Lib.hid hgx
  obtain ⟨hc0, hc1, _, _⟩ := two_cells HHW.out
  have hgw := blk_lt HHW.out
  obtain ⟨u, hu⟩ : ∃ u : ByteArray, u = ⟨(bodyT s).toArray⟩ := ⟨_, rfl⟩
  have HU := Lib.hid hu
  have HUD : Hid (u.data.toList = bodyT s) := by show _ = _; rw [hu]
  have husz : u.size ≤ maxLen := by rw [← len_data, HUD.out]; exact Nat.le_trans (body_size s).1 hs
  clear hu
  obtain ⟨b, hb⟩ : ∃ b, negT s = b := ⟨_, rfl⟩
  obtain ⟨g1, hg1⟩ : ∃ b, goodD (bodyT s) = b := ⟨_, rfl⟩
  obtain ⟨g2, hg2⟩ : ∃ b, goodD t.data.toList = b := ⟨_, rfl⟩
  have HBN := Lib.hid hb
  have HG1 : Hid (goodD u.data.toList = g1) := by show _ = _; rw [HUD.out]; exact hg1
  have HG2 := Lib.hid hg2
  have hd0 : (u.toList == [48]) = (bodyT s == [48]) := by rw [beq_toList, HUD.out]
  have hd1 : (t.toList == [48]) = (t.data.toList == [48]) := beq_toList t _
  obtain ⟨e0, he0⟩ : ∃ b, (bodyT s == [48]) = b := ⟨_, rfl⟩
  obtain ⟨e1, he1⟩ : ∃ b, (t.data.toList == [48]) = b := ⟨_, rfl⟩
  have HF : Hid (formQ s t = (g1 && !(b && e0) && g2 && !e1)) := by show _ = _; unfold formQ; rw [hb, hg1, hg2, he0, he1]
  rw [he0] at hd0
  rw [he1] at hd1
  have HE1 := Lib.hid he1
  clear hb hg1 hg2 he0 he1
  have hform : formQ s t = false → Hid (chkQ s t = 3) := fun h => by show _ = _; unfold chkQ; rw [if_pos h]
  cases g1 with
  | false =>
    have HV := hform HF.out
    clear hform
    go_enter Tryz.func55, Tryz.ntmps55
    go_upto_region 1 with (fail)
    rw [← hW, ← hgx]
    clear hW hgx
    go_wp2_with (first
      | (go_at_call 102; refine (CUT_eq HU HBN _).mono ?_; rintro e w1 ⟨rfl, rfl⟩)
      | (go_at_call 103; (with_reducible refine (CDIGITS_any u husz _).mono ?_); rintro e w1 ⟨rfl, rfl⟩; rw [HG1.out])
      | (go_at_call 103; (with_reducible refine (CDIGITS_any t ht _).mono ?_); rintro e w1 ⟨rfl, rfl⟩; rw [HG2.out]))
    go_ret
    exact ⟨by rw [HV.out]; rfl, HBW.out⟩
  | true =>
  cases b with
  | false =>
    cases g2 with
    | false =>
      have HV := hform (by rw [HF.out]; simp)
      clear hform
      go_enter Tryz.func55, Tryz.ntmps55
      go_upto_region 1 with (fail)
      rw [← hW, ← hgx]
      clear hW hgx
      go_wp2_with (first
        | (go_at_call 102; refine (CUT_eq HU HBN _).mono ?_; rintro e w1 ⟨rfl, rfl⟩)
        | (go_at_call 103; (with_reducible refine (CDIGITS_any u husz _).mono ?_); rintro e w1 ⟨rfl, rfl⟩; rw [HG1.out])
        | (go_at_call 103; (with_reducible refine (CDIGITS_any t ht _).mono ?_); rintro e w1 ⟨rfl, rfl⟩; rw [HG2.out]))
      go_ret
      exact ⟨by rw [HV.out]; rfl, HBW.out⟩
    | true =>
    cases e1 with
    | true =>
      have HV := hform (by rw [HF.out]; simp)
      clear hform
      go_enter Tryz.func55, Tryz.ntmps55
      go_upto_region 1 with (fail)
      rw [← hW, ← hgx]
      clear hW hgx
      go_wp2_with (first
        | (go_at_call 102; refine (CUT_eq HU HBN _).mono ?_; rintro e w1 ⟨rfl, rfl⟩)
        | (go_at_call 103; (with_reducible refine (CDIGITS_any u husz _).mono ?_); rintro e w1 ⟨rfl, rfl⟩; rw [HG1.out])
        | (go_at_call 103; (with_reducible refine (CDIGITS_any t ht _).mono ?_); rintro e w1 ⟨rfl, rfl⟩; rw [HG2.out]))
      go_ret
      exact ⟨by rw [HV.out]; rfl, HBW.out⟩
    | false =>
    have HFT : Hid (formQ s t = true) := by show _ = _; rw [HF.out]; simp
    clear hform
    have HUL : Hid (u.size = (bodyT s).length) := by show _ = _; rw [← len_data, HUD.out]
    by_cases hA : 2000 < u.size
    · have HV : Hid (chkQ s t = 2) := by show _ = _; unfold chkQ; rw [if_neg (by rw [HFT.out]; simp), if_pos (.inl (by rw [← HUL.out]; exact hA))]
      go_enter Tryz.func55, Tryz.ntmps55
      go_upto_region 1 with (fail)
      rw [← hW, ← hgx]
      clear hW hgx
      go_wp2_with (first
        | (go_at_call 102; refine (CUT_eq HU HBN _).mono ?_; rintro e w1 ⟨rfl, rfl⟩)
        | (go_at_call 103; (with_reducible refine (CDIGITS_any u husz _).mono ?_); rintro e w1 ⟨rfl, rfl⟩; rw [HG1.out])
        | (go_at_call 103; (with_reducible refine (CDIGITS_any t ht _).mono ?_); rintro e w1 ⟨rfl, rfl⟩; rw [HG2.out]))
      go_ret
      exact ⟨by rw [HV.out]; rfl, HBW.out⟩
    by_cases hC : 2000 < t.size
    · have HV : Hid (chkQ s t = 2) := by show _ = _; unfold chkQ; rw [if_neg (by rw [HFT.out]; simp), if_pos (.inr hC)]
      go_enter Tryz.func55, Tryz.ntmps55
      go_upto_region 1 with (fail)
      rw [← hW, ← hgx]
      clear hW hgx
      go_wp2_with (first
        | (go_at_call 102; refine (CUT_eq HU HBN _).mono ?_; rintro e w1 ⟨rfl, rfl⟩)
        | (go_at_call 103; (with_reducible refine (CDIGITS_any u husz _).mono ?_); rintro e w1 ⟨rfl, rfl⟩; rw [HG1.out])
        | (go_at_call 103; (with_reducible refine (CDIGITS_any t ht _).mono ?_); rintro e w1 ⟨rfl, rfl⟩; rw [HG2.out]))
      go_ret
      exact ⟨by rw [HV.out]; rfl, HBW.out⟩
    have HV : Hid (chkQ s t = if Nat.gcd (parseZ s).natAbs (decV t.data.toList) = 1 then 0 else 3) := by
      show _ = _
      unfold chkQ
      rw [if_neg (by rw [HFT.out]; simp), if_neg (by have := HUL.out; omega), parseZ_abs]
    have hsz : s.size ≤ 2001 := by have := (body_size s).2; have := HUL.out; omega
    have HAD : Hid (AllDig (bodyT s)) := by have := HG1.out; rw [HUD.out] at this; exact (goodD_iff.1 this).1
    have HBD : Hid (AllDig t.data.toList) := (goodD_iff.1 HG2.out).1
    have HPS : Hid (0 < decV t.data.toList) := good_pos (goodD_iff.1 HG2.out) (by rw [← beq_eq_false_iff_ne]; exact HE1.out)
    go_enter Tryz.func55, Tryz.ntmps55
    go_upto_region 1 with (fail)
    rw [← hW, ← hgx]
    clear hW hgx
    go_wp2_with (first
      | (go_at_call 102; refine (CUT_eq HU HBN _).mono ?_; rintro e w1 ⟨rfl, rfl⟩)
      | (go_at_call 103; (with_reducible refine (CDIGITS_any u husz _).mono ?_); rintro e w1 ⟨rfl, rfl⟩; rw [HG1.out])
      | (go_at_call 103; (with_reducible refine (CDIGITS_any t ht _).mono ?_); rintro e w1 ⟨rfl, rfl⟩; rw [HG2.out]))
    refine (QFROM_any s t HAD (by omega) HBD (by omega) _).mono ?_
    rintro e w2 ⟨ng, A, n, c, A', n', c', rfl, h2, k1, k2, hb2⟩
    have H2 := Lib.hid h2
    have HB2 := Lib.hid (HBW.out.trans (hb2.mono HBW.out.size))
    clear h2 hb2
    go_wp2_with fail
    refine (QLOWEST_any ng A A' n c n' c' _ _ HPS.out (by omega) (by omega) _ w2.heap.size (Nat.le_refl _) H2).mono ?_
    rintro e w3 ⟨rfl, hb3⟩
    have HB3 := Lib.hid (HB2.out.trans (hb3.mono HB2.out.size))
    clear hb3
    by_cases hg : Nat.gcd (parseZ s).natAbs (decV t.data.toList) = 1
    · rw [if_pos hg] at HV
      rw [decide_eq_true hg]
      clear hg
      go_wp2_with fail
      go_ret
      exact ⟨by rw [HV.out]; rfl, HB3.out⟩
    · rw [if_neg hg] at HV
      rw [decide_eq_false hg]
      clear hg
      go_wp2_with fail
      go_ret
      exact ⟨by rw [HV.out]; rfl, HB3.out⟩
  | true =>
  cases e0 with
  | true =>
    have HV := hform (by rw [HF.out]; simp)
    clear hform
    go_enter Tryz.func55, Tryz.ntmps55
    go_upto_region 1 with (fail)
    rw [← hW, ← hgx]
    clear hW hgx
    go_wp2_with (first
      | (go_at_call 102; refine (CUT_eq HU HBN _).mono ?_; rintro e w1 ⟨rfl, rfl⟩)
      | (go_at_call 103; (with_reducible refine (CDIGITS_any u husz _).mono ?_); rintro e w1 ⟨rfl, rfl⟩; rw [HG1.out])
      | (go_at_call 103; (with_reducible refine (CDIGITS_any t ht _).mono ?_); rintro e w1 ⟨rfl, rfl⟩; rw [HG2.out]))
    go_ret
    exact ⟨by rw [HV.out]; rfl, HBW.out⟩
  | false =>
    cases g2 with
    | false =>
      have HV := hform (by rw [HF.out]; simp)
      clear hform
      go_enter Tryz.func55, Tryz.ntmps55
      go_upto_region 1 with (fail)
      rw [← hW, ← hgx]
      clear hW hgx
      go_wp2_with (first
        | (go_at_call 102; refine (CUT_eq HU HBN _).mono ?_; rintro e w1 ⟨rfl, rfl⟩)
        | (go_at_call 103; (with_reducible refine (CDIGITS_any u husz _).mono ?_); rintro e w1 ⟨rfl, rfl⟩; rw [HG1.out])
        | (go_at_call 103; (with_reducible refine (CDIGITS_any t ht _).mono ?_); rintro e w1 ⟨rfl, rfl⟩; rw [HG2.out]))
      go_ret
      exact ⟨by rw [HV.out]; rfl, HBW.out⟩
    | true =>
    cases e1 with
    | true =>
      have HV := hform (by rw [HF.out]; simp)
      clear hform
      go_enter Tryz.func55, Tryz.ntmps55
      go_upto_region 1 with (fail)
      rw [← hW, ← hgx]
      clear hW hgx
      go_wp2_with (first
        | (go_at_call 102; refine (CUT_eq HU HBN _).mono ?_; rintro e w1 ⟨rfl, rfl⟩)
        | (go_at_call 103; (with_reducible refine (CDIGITS_any u husz _).mono ?_); rintro e w1 ⟨rfl, rfl⟩; rw [HG1.out])
        | (go_at_call 103; (with_reducible refine (CDIGITS_any t ht _).mono ?_); rintro e w1 ⟨rfl, rfl⟩; rw [HG2.out]))
      go_ret
      exact ⟨by rw [HV.out]; rfl, HBW.out⟩
    | false =>
    have HFT : Hid (formQ s t = true) := by show _ = _; rw [HF.out]; simp
    clear hform
    have HUL : Hid (u.size = (bodyT s).length) := by show _ = _; rw [← len_data, HUD.out]
    by_cases hA : 2000 < u.size
    · have HV : Hid (chkQ s t = 2) := by show _ = _; unfold chkQ; rw [if_neg (by rw [HFT.out]; simp), if_pos (.inl (by rw [← HUL.out]; exact hA))]
      go_enter Tryz.func55, Tryz.ntmps55
      go_upto_region 1 with (fail)
      rw [← hW, ← hgx]
      clear hW hgx
      go_wp2_with (first
        | (go_at_call 102; refine (CUT_eq HU HBN _).mono ?_; rintro e w1 ⟨rfl, rfl⟩)
        | (go_at_call 103; (with_reducible refine (CDIGITS_any u husz _).mono ?_); rintro e w1 ⟨rfl, rfl⟩; rw [HG1.out])
        | (go_at_call 103; (with_reducible refine (CDIGITS_any t ht _).mono ?_); rintro e w1 ⟨rfl, rfl⟩; rw [HG2.out]))
      go_ret
      exact ⟨by rw [HV.out]; rfl, HBW.out⟩
    by_cases hC : 2000 < t.size
    · have HV : Hid (chkQ s t = 2) := by show _ = _; unfold chkQ; rw [if_neg (by rw [HFT.out]; simp), if_pos (.inr hC)]
      go_enter Tryz.func55, Tryz.ntmps55
      go_upto_region 1 with (fail)
      rw [← hW, ← hgx]
      clear hW hgx
      go_wp2_with (first
        | (go_at_call 102; refine (CUT_eq HU HBN _).mono ?_; rintro e w1 ⟨rfl, rfl⟩)
        | (go_at_call 103; (with_reducible refine (CDIGITS_any u husz _).mono ?_); rintro e w1 ⟨rfl, rfl⟩; rw [HG1.out])
        | (go_at_call 103; (with_reducible refine (CDIGITS_any t ht _).mono ?_); rintro e w1 ⟨rfl, rfl⟩; rw [HG2.out]))
      go_ret
      exact ⟨by rw [HV.out]; rfl, HBW.out⟩
    have HV : Hid (chkQ s t = if Nat.gcd (parseZ s).natAbs (decV t.data.toList) = 1 then 0 else 3) := by
      show _ = _
      unfold chkQ
      rw [if_neg (by rw [HFT.out]; simp), if_neg (by have := HUL.out; omega), parseZ_abs]
    have hsz : s.size ≤ 2001 := by have := (body_size s).2; have := HUL.out; omega
    have HAD : Hid (AllDig (bodyT s)) := by have := HG1.out; rw [HUD.out] at this; exact (goodD_iff.1 this).1
    have HBD : Hid (AllDig t.data.toList) := (goodD_iff.1 HG2.out).1
    have HPS : Hid (0 < decV t.data.toList) := good_pos (goodD_iff.1 HG2.out) (by rw [← beq_eq_false_iff_ne]; exact HE1.out)
    go_enter Tryz.func55, Tryz.ntmps55
    go_upto_region 1 with (fail)
    rw [← hW, ← hgx]
    clear hW hgx
    go_wp2_with (first
      | (go_at_call 102; refine (CUT_eq HU HBN _).mono ?_; rintro e w1 ⟨rfl, rfl⟩)
      | (go_at_call 103; (with_reducible refine (CDIGITS_any u husz _).mono ?_); rintro e w1 ⟨rfl, rfl⟩; rw [HG1.out])
      | (go_at_call 103; (with_reducible refine (CDIGITS_any t ht _).mono ?_); rintro e w1 ⟨rfl, rfl⟩; rw [HG2.out]))
    refine (QFROM_any s t HAD (by omega) HBD (by omega) _).mono ?_
    rintro e w2 ⟨ng, A, n, c, A', n', c', rfl, h2, k1, k2, hb2⟩
    have H2 := Lib.hid h2
    have HB2 := Lib.hid (HBW.out.trans (hb2.mono HBW.out.size))
    clear h2 hb2
    go_wp2_with fail
    refine (QLOWEST_any ng A A' n c n' c' _ _ HPS.out (by omega) (by omega) _ w2.heap.size (Nat.le_refl _) H2).mono ?_
    rintro e w3 ⟨rfl, hb3⟩
    have HB3 := Lib.hid (HB2.out.trans (hb3.mono HB2.out.size))
    clear hb3
    by_cases hg : Nat.gcd (parseZ s).natAbs (decV t.data.toList) = 1
    · rw [if_pos hg] at HV
      rw [decide_eq_true hg]
      clear hg
      go_wp2_with fail
      go_ret
      exact ⟨by rw [HV.out]; rfl, HB3.out⟩
    · rw [if_neg hg] at HV
      rw [decide_eq_false hg]
      clear hg
      go_wp2_with fail
      go_ret
      exact ⟨by rw [HV.out]; rfl, HB3.out⟩
end Go.Proofs.YtkmcohnhanphdaaGreatDoor
/- The texts of quotients, plain: a right ratio is the text of its number. -/
namespace Go.Proofs.YtkmcohnhanphdaaGreatDoor
open Go.RowKit Go.Dw
theorem dec_head (u : Nat) (h0 : 0 < u) : ∃ c r, Lib.decDigits u = c :: r ∧ c ≠ 48 := by
  induction u using Nat.strongRecOn with
  | _ u ih =>
    by_cases h : u < 10
    · refine ⟨UInt8.ofNat (48 + u), [], by rw [Lib.decDigits, dif_pos h], fun e => ?_⟩
      have := congrArg UInt8.toNat e
      rw [UInt8.toNat_ofNat'] at this
      have e48 : (48 : UInt8).toNat = 48 := rfl
      omega
    · obtain ⟨c, r, h1, h2⟩ := ih (u / 10) (by omega) (by omega)
      exact ⟨c, r ++ [UInt8.ofNat (48 + u % 10)], by rw [Lib.decDigits, dif_neg h, h1]; rfl, h2⟩
theorem dec_good (u : Nat) : GoodD (Lib.decDigits u) := by
  refine ⟨allDig_decDigits u, ?_⟩
  by_cases h : u = 0
  · subst h; exact .inl dec_zero
  · exact .inr (dec_head u (by omega))
theorem dec_ne48 {u : Nat} (h : 0 < u) : Lib.decDigits u ≠ [48] := fun e => by
  have := decV_decDigits u
  rw [e] at this
  have h2 : decV [48] = 0 := rfl
  omega
theorem ba_ext {s : ByteArray} {l : List UInt8} (h : s.data.toList = l) : s = ⟨l.toArray⟩ := by
  apply ByteArray.ext
  rw [← h]
theorem hasPrefix1 (c d : UInt8) (r : List UInt8) : Lib.hasPrefix (c :: r) [d] = (d == c) := by
  simp [Lib.hasPrefix, List.isPrefixOf]
theorem neg_cons (r : List UInt8) : Lib.hasPrefix (45 :: r) [45] = true := by rw [hasPrefix1]; rfl
theorem good_noneg {l : List UInt8} (h : AllDig l) : Lib.hasPrefix l [45] = false := by
  cases l with
  | nil => rfl
  | cons c r =>
    rw [hasPrefix1]
    have := h c (by simp)
    refine beq_eq_false_iff_ne.2 fun e => ?_
    rw [← e] at this
    have e45 : (45 : UInt8).toNat = 45 := rfl
    omega
theorem prefix_true {l : List UInt8} (h : Lib.hasPrefix l [45] = true) : l = 45 :: Lib.trimPrefix l [45] := by
  cases l with
  | nil => cases h
  | cons c r =>
    have h2 := h
    rw [hasPrefix1] at h2
    have e : (45 : UInt8) = c := by simpa using h2
    unfold Lib.trimPrefix
    rw [if_pos h, ← e]
    rfl
theorem prefix_false {l : List UInt8} (h : Lib.hasPrefix l [45] = false) : Lib.trimPrefix l [45] = l := by
  unfold Lib.trimPrefix
  rw [if_neg (by rw [h]; simp)]
def txN (q : Rat) : ByteArray := ⟨(numT q).toArray⟩
def txD (q : Rat) : ByteArray := ⟨(Lib.decDigits q.den).toArray⟩
def valQ (s t : ByteArray) : Rat := mkRat (parseZ s) (decV t.data.toList)
theorem txN_data (q : Rat) : (txN q).data.toList = numT q := rfl
theorem txD_data (q : Rat) : (txD q).data.toList = Lib.decDigits q.den := rfl
theorem txN_neg (q : Rat) : negT (txN q) = decide (q.num < 0) := by
  unfold negT
  rw [txN_data]
  unfold numT
  by_cases h : q.num < 0
  · rw [if_pos h, decide_eq_true h]; exact neg_cons _
  · rw [if_neg h, decide_eq_false h]; exact good_noneg (allDig_decDigits _)
theorem txN_body (q : Rat) : bodyT (txN q) = Lib.decDigits q.num.natAbs := by
  unfold bodyT
  rw [txN_data]
  unfold numT
  by_cases h : q.num < 0
  · rw [if_pos h]
    unfold Lib.trimPrefix
    rw [List.singleton_append, if_pos (neg_cons _)]
    rfl
  · rw [if_neg h, List.nil_append]
    exact prefix_false (good_noneg (allDig_decDigits _))
theorem txN_parse (q : Rat) : parseZ (txN q) = q.num := by
  unfold parseZ
  rw [txN_neg, txN_body, decV_decDigits]
  by_cases h : q.num < 0
  · rw [decide_eq_true h, if_pos rfl]; omega
  · rw [decide_eq_false h, if_neg (by simp)]; omega
theorem valQ_tx (q : Rat) : valQ (txN q) (txD q) = q := by
  unfold valQ
  rw [txN_parse, txD_data, decV_decDigits]
  exact Rat.mkRat_self q
theorem few_iff (q : Rat) (m : Nat) : fewT q m = true ↔ (Lib.decDigits q.num.natAbs).length ≤ m ∧ (Lib.decDigits q.den).length ≤ m := by
  unfold fewT; simp
theorem txD_size (q : Rat) : (txD q).size = (Lib.decDigits q.den).length := by rw [← len_data, txD_data]
theorem form_tx (q : Rat) : formQ (txN q) (txD q) = true := by
  unfold formQ
  rw [txN_body, txN_neg, txD_data, goodD_true (dec_good _), goodD_true (dec_good _), beq_eq_false_iff_ne.2 (dec_ne48 (show 0 < q.den from q.den_pos))]
  by_cases h : q.num < 0
  · rw [decide_eq_true h, beq_eq_false_iff_ne.2 (dec_ne48 (by omega))]; rfl
  · rw [decide_eq_false h]; rfl
theorem chk_tx (q : Rat) : chkQ (txN q) (txD q) = if fewT q 2000 then 0 else 2 := by
  unfold chkQ
  rw [if_neg (by rw [form_tx]; simp), txN_body, txD_size, txD_data, decV_decDigits, decV_decDigits]
  by_cases h : fewT q 2000 = true
  · have h2 := (few_iff q 2000).1 h
    rw [if_pos h, if_neg (by omega), if_pos]
    exact q.reduced
  · have h2 : ¬ ((Lib.decDigits q.num.natAbs).length ≤ 2000 ∧ (Lib.decDigits q.den).length ≤ 2000) := fun h3 => h ((few_iff q 2000).2 h3)
    rw [if_neg h, if_pos (by omega)]
theorem chk_few {q : Rat} (h : fewT q 2000 = true) : chkQ (txN q) (txD q) = 0 := by rw [chk_tx, if_pos h]
structure RightQ (s t : ByteArray) : Prop where
  body : GoodD (bodyT s)
  den : GoodD t.data.toList
  zero : negT s = true → bodyT s ≠ [48]
  pos : 0 < decV t.data.toList
  low : Nat.gcd (decV (bodyT s)) (decV t.data.toList) = 1
  few : (bodyT s).length ≤ 2000
  few' : t.size ≤ 2000
theorem form_right {s t : ByteArray} (h : formQ s t = true) : GoodD (bodyT s) ∧ GoodD t.data.toList ∧ (negT s = true → bodyT s ≠ [48]) ∧ 0 < decV t.data.toList := by
  unfold formQ at h
  simp only [Bool.and_eq_true, Bool.not_eq_true', Bool.and_eq_false_iff, beq_eq_false_iff_ne] at h
  obtain ⟨⟨⟨h1, h2⟩, h3⟩, h4⟩ := h
  refine ⟨goodD_iff.1 h1, goodD_iff.1 h3, fun hn => ?_, good_pos (goodD_iff.1 h3) h4⟩
  rcases h2 with h2 | h2
  · rw [hn] at h2; cases h2
  · exact h2
theorem chk_right {s t : ByteArray} (h : chkQ s t = 0) : RightQ s t := by
  unfold chkQ at h
  by_cases h1 : formQ s t = false
  · rw [if_pos h1] at h; exact absurd h (by decide)
  · rw [if_neg h1] at h
    obtain ⟨a, b, c, d⟩ := form_right (s := s) (t := t) (by simpa using h1)
    by_cases h2 : 2000 < (bodyT s).length ∨ 2000 < t.size
    · rw [if_pos h2] at h; exact absurd h (by decide)
    · rw [if_neg h2] at h
      by_cases h3 : Nat.gcd (decV (bodyT s)) (decV t.data.toList) = 1
      · exact ⟨a, b, c, d, h3, by omega, by omega⟩
      · rw [if_neg h3] at h; exact absurd h (by decide)
theorem RightQ.val {s t : ByteArray} (h : RightQ s t) : (valQ s t).num = parseZ s ∧ (valQ s t).den = decV t.data.toList := by
  unfold valQ
  refine lowest_self h.pos ?_
  rw [parseZ_abs]; exact h.low
theorem parse_neg {s : ByteArray} (hb : GoodD (bodyT s)) (hz : negT s = true → bodyT s ≠ [48]) : decide (parseZ s < 0) = negT s := by
  unfold parseZ
  cases hn : negT s with
  | true =>
    have := good_pos hb (hz hn)
    rw [if_pos rfl]
    exact decide_eq_true (by omega)
  | false =>
    rw [if_neg (by simp)]
    exact decide_eq_false (by omega)
theorem numT_parse {s : ByteArray} (hb : GoodD (bodyT s)) (hz : negT s = true → bodyT s ≠ [48]) : (if parseZ s < 0 then [45] else []) ++ Lib.decDigits (parseZ s).natAbs = s.data.toList := by
  have hp := parse_neg hb hz
  rw [parseZ_abs, good_dec hb]
  cases hn : negT s with
  | true =>
    rw [hn] at hp
    rw [if_pos (of_decide_eq_true hp)]
    exact (prefix_true hn).symm
  | false =>
    rw [hn] at hp
    rw [if_neg (of_decide_eq_false hp), List.nil_append]
    exact prefix_false hn
theorem RightQ.tx {s t : ByteArray} (h : RightQ s t) : s = txN (valQ s t) ∧ t = txD (valQ s t) := by
  obtain ⟨h1, h2⟩ := h.val
  constructor
  · refine ba_ext ?_
    unfold numT
    rw [h1]
    exact (numT_parse h.body h.zero).symm
  · refine ba_ext ?_
    rw [h2, good_dec h.den]
theorem RightQ.fewT {s t : ByteArray} (h : RightQ s t) : fewT (valQ s t) 2000 = true := by
  obtain ⟨h1, h2⟩ := h.val
  rw [few_iff, h1, h2, parseZ_abs, good_dec h.body, good_dec h.den]
  exact ⟨h.few, by rw [len_data]; exact h.few'⟩
theorem dec_len : ∀ (n u : Nat), 0 < n → u < 10 ^ n → (Lib.decDigits u).length ≤ n
  | 0, u, h, _ => by omega
  | n + 1, u, _, h => by
    by_cases h1 : u < 10
    · rw [Lib.decDigits, dif_pos h1]; simp
    · rw [Lib.decDigits, dif_neg h1, List.length_append, List.length_singleton]
      have hn : 0 < n := by
        refine Nat.pos_of_ne_zero fun e => ?_
        subst e
        simp at h
        omega
      have := dec_len n (u / 10) hn (by rw [Nat.pow_succ] at h; omega)
      omega
end Go.Proofs.YtkmcohnhanphdaaGreatDoor
