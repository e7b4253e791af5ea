/- The document's number, CheckRatio. -/
import Derived.Test.YtnhmhjhfoonakaaGreatDoorYs
import Derived.Test.YtnhmhjhfoonakaaGreatDoorRegion3
set_option linter.unusedSimpArgs false
set_option linter.unusedVariables false
namespace Go.Proofs.YtnhmhjhfoonakaaGreatDoor
open Go.RowKit Go.Dw Go.Joins
theorem good_head {l : List UInt8} (hd : AllDig l) (h0 : l ≠ []) (h1 : ¬ (1 < l.length ∧ l.head? = some 48)) : GoodD l := by
  refine ⟨hd, ?_⟩
  cases l with
  | nil => exact absurd rfl h0
  | cons c r =>
    by_cases hc : c = 48
    · subst hc
      cases r with
      | nil => exact .inl rfl
      | cons d r => exact absurd ⟨by simp, rfl⟩ h1
    · exact .inr ⟨c, r, rfl, hc⟩
set_option maxRecDepth 100000 in
set_option maxHeartbeats 2000000 in
theorem RNUMB_any (s : ByteArray) (hs : s.size ≤ maxLen) (w : World) :
    Calls Tryz.prog 53 #[.string s] w fun e w' => e = .returned (.bool (goodD s.data.toList)) ∧ w = w' := by
  unfold maxLen at hs
  have HLN := Lib.hid (len_data s)
  by_cases h0 : s.size = 0
  · have he : s = ⟨#[]⟩ := by
      refine ba_ext ?_
      exact List.eq_nil_of_length_eq_zero (by rw [len_data]; exact h0)
    have HG : Hid (goodD s.data.toList = false) := goodD_false fun h => by
      rw [he] at h
      rcases h.2 with h2 | ⟨c, r, h2, _⟩
      · cases h2
      · cases h2
    subst he
    go_enter Tryz.func53, Tryz.ntmps53
    go_wp2_with fail
    go_ret
    exact ⟨by rw [HG.out]; rfl, rfl⟩
  · have hd1 : s.toList.isEmpty = false := by
      have h1 := HLN.out
      rw [ByteArray.toList_eq]
      cases hl : s.data.toList with
      | nil => rw [hl] at h1; simp at h1; omega
      | cons c r => rfl
    have hpos : 0 < s.size := by omega
    have hby := at_getD s hpos
    obtain ⟨x, hx⟩ : ∃ x, s[0].toNat = x := ⟨_, rfl⟩
    have HX : Hid ((s.data.toList.getD 0 0).toNat = x) := by show _ = _; rw [← hby]; exact hx
    have HHD : Hid (s.data.toList.head? = some (s.data.toList.getD 0 0)) := by
      show _ = _
      have : 0 < s.data.toList.length := by rw [len_data]; exact hpos
      cases hl : s.data.toList with
      | nil => rw [hl] at this; simp at this
      | cons c r => rfl
    by_cases hbad : 1 < s.size ∧ x = 48
    · obtain ⟨hb1, rfl⟩ := hbad
      have HG : Hid (goodD s.data.toList = false) := goodD_false fun h => by
        rcases h.2 with h2 | ⟨c, r, h2, h3⟩
        · have := HLN.out; rw [h2] at this; simp at this; omega
        · have := HHD.out
          rw [h2] at this
          refine h3 (UInt8.toNat_inj.1 ?_)
          have h4 := HX.out
          rw [h2] at h4
          exact h4
      have hb9 : (1 : Int) < (s.size : Int) := by omega
      clear hby
      go_enter Tryz.func53, Tryz.ntmps53
      go_wp2_with fail
      go_ret
      exact ⟨by rw [HG.out]; rfl, rfl⟩
    · have HNB : Hid (¬ (1 < s.data.toList.length ∧ s.data.toList.head? = some 48)) := fun h => hbad ⟨by have := h.1; rw [len_data] at this; exact this, by
        have := HHD.out
        rw [h.2] at this
        injection this with this
        rw [← HX.out, ← this]; rfl⟩
      clear hby
      by_cases hb1 : 1 < s.size
      · have hx48 : x ≠ 48 := fun h => hbad ⟨hb1, h⟩
        have hx49 : ((x : Int) == 48) = false := by simp; omega
        have hb9 : (1 : Int) < (s.size : Int) := by omega
        clear hbad hx48
        go_enter Tryz.func53, Tryz.ntmps53
        go_wp2_with fail
        go_loop [3] (fun i => ∃ k : Nat, k ≤ s.size ∧ i = .int .i64 k ∧ Hid (AllDig (s.data.toList.take k))) (fun i => s.size - (intOf i).toNat)
        case atStart => exact ⟨0, Nat.zero_le _, rfl, by show AllDig _; intro c hc; simp at hc⟩
        case round =>
          obtain ⟨k, hk, rfl, HD⟩ := hrel
          by_cases hlt : k < s.size
          · have hby := at_getD s hlt
            have hmem : s.data.toList.getD k 0 ∈ s.data.toList := getD_mem (by rw [len_data]; exact hlt)
            obtain ⟨y, hy⟩ : ∃ x, s[k].toNat = x := ⟨_, rfl⟩
            have HY : Hid ((s.data.toList.getD k 0).toNat = y) := by show _ = _; rw [← hby]; exact hy
            clear hby
            by_cases h1 : 48 ≤ y ∧ y ≤ 57
            · obtain ⟨h1, h2⟩ := h1
              have hd1 : decide ((y : Int) < 48) = false := by simp; omega
              have hd2 : decide ((57 : Int) < (y : Int)) = false := by simp; omega
              go_wp2_with fail
              go_round
              case rel =>
                refine ⟨k + 1, by omega, by go_num, ?_⟩
                show AllDig _
                rw [List.take_succ_eq_append_getElem (by rw [len_data]; exact hlt)]
                intro c hc
                rcases List.mem_append.1 hc with h | h
                · exact HD.out c h
                · simp only [List.mem_singleton] at h
                  have e : s.data.toList[k]'(by rw [len_data]; exact hlt) = s.data.toList.getD k 0 := by simp [List.getD, hlt]
                  rw [h, e, HY.out]
                  exact ⟨h1, h2⟩
              case measure => simp [intOf] <;> omega
            · have HBAD : Hid (goodD s.data.toList = false) := goodD_false fun h => by
                have := h.1 _ hmem
                rw [HY.out] at this
                exact h1 this
              by_cases h3 : y < 48
              · have hd1 : decide ((y : Int) < 48) = true := by simp; omega
                clear h1
                go_wp2_with fail
                go_ret
                exact ⟨by rw [HBAD.out]; rfl, rfl⟩
              · have hd1 : decide ((y : Int) < 48) = false := by simp; omega
                have hd2 : decide ((57 : Int) < (y : Int)) = true := by simp; omega
                clear h1
                go_wp2_with fail
                go_ret
                exact ⟨by rw [HBAD.out]; rfl, rfl⟩
          · have HALL : Hid (AllDig s.data.toList) := by
              have := HD.out
              rwa [List.take_of_length_le (by rw [len_data]; omega)] at this
            have HG : Hid (goodD s.data.toList = true) := goodD_true (good_head HALL.out (by intro e; have := HLN.out; rw [e] at this; simp at this; omega) HNB.out)
            go_wp2_with fail
            go_ret
            exact ⟨by rw [HG.out]; rfl, rfl⟩
      · have hb9 : ¬ (1 : Int) < (s.size : Int) := by omega
        clear hbad
        go_enter Tryz.func53, Tryz.ntmps53
        go_wp2_with fail
        go_loop [3] (fun i => ∃ k : Nat, k ≤ s.size ∧ i = .int .i64 k ∧ Hid (AllDig (s.data.toList.take k))) (fun i => s.size - (intOf i).toNat)
        case atStart => exact ⟨0, Nat.zero_le _, rfl, by show AllDig _; intro c hc; simp at hc⟩
        case round =>
          obtain ⟨k, hk, rfl, HD⟩ := hrel
          by_cases hlt : k < s.size
          · have hby := at_getD s hlt
            have hmem : s.data.toList.getD k 0 ∈ s.data.toList := getD_mem (by rw [len_data]; exact hlt)
            obtain ⟨y, hy⟩ : ∃ x, s[k].toNat = x := ⟨_, rfl⟩
            have HY : Hid ((s.data.toList.getD k 0).toNat = y) := by show _ = _; rw [← hby]; exact hy
            clear hby
            by_cases h1 : 48 ≤ y ∧ y ≤ 57
            · obtain ⟨h1, h2⟩ := h1
              have hd1 : decide ((y : Int) < 48) = false := by simp; omega
              have hd2 : decide ((57 : Int) < (y : Int)) = false := by simp; omega
              go_wp2_with fail
              go_round
              case rel =>
                refine ⟨k + 1, by omega, by go_num, ?_⟩
                show AllDig _
                rw [List.take_succ_eq_append_getElem (by rw [len_data]; exact hlt)]
                intro c hc
                rcases List.mem_append.1 hc with h | h
                · exact HD.out c h
                · simp only [List.mem_singleton] at h
                  have e : s.data.toList[k]'(by rw [len_data]; exact hlt) = s.data.toList.getD k 0 := by simp [List.getD, hlt]
                  rw [h, e, HY.out]
                  exact ⟨h1, h2⟩
              case measure => simp [intOf] <;> omega
            · have HBAD : Hid (goodD s.data.toList = false) := goodD_false fun h => by
                have := h.1 _ hmem
                rw [HY.out] at this
                exact h1 this
              by_cases h3 : y < 48
              · have hd1 : decide ((y : Int) < 48) = true := by simp; omega
                clear h1
                go_wp2_with fail
                go_ret
                exact ⟨by rw [HBAD.out]; rfl, rfl⟩
              · have hd1 : decide ((y : Int) < 48) = false := by simp; omega
                have hd2 : decide ((57 : Int) < (y : Int)) = true := by simp; omega
                clear h1
                go_wp2_with fail
                go_ret
                exact ⟨by rw [HBAD.out]; rfl, rfl⟩
          · have HALL : Hid (AllDig s.data.toList) := by
              have := HD.out
              rwa [List.take_of_length_le (by rw [len_data]; omega)] at this
            have HG : Hid (goodD s.data.toList = true) := goodD_true (good_head HALL.out (by intro e; have := HLN.out; rw [e] at this; simp at this; omega) HNB.out)
            go_wp2_with fail
            go_ret
            exact ⟨by rw [HG.out]; rfl, rfl⟩
set_option maxRecDepth 100000 in
set_option maxHeartbeats 8000000 in
theorem RCHECKRATIO_any (s t : ByteArray) (hs : s.size ≤ maxLen) (ht : t.size ≤ maxLen) (w : World) :
    Calls Tryz.prog 19 #[.agg #[.string s, .string t]] w fun e w' => e = .returned (.int .i64 (chkQ s t)) ∧ Below w.heap.size w w' := by
  obtain ⟨W, gx, hW, hgx, HHW, HBW, HSW⟩ := rcell_new w 26 #[.string s, .string t]
  have HGX := Lib.hid hgx
  obtain ⟨hc0, hc1, _, _⟩ := two_cells HHW.out
  have hgw := blk_lt HHW.out
  obtain ⟨g1, hg1⟩ : ∃ b, goodD (bodyT s) = b := ⟨_, rfl⟩
  obtain ⟨g2, hg2⟩ : ∃ b, goodD t.data.toList = b := ⟨_, rfl⟩
  have HG2 := Lib.hid hg2
  obtain ⟨e1, he1⟩ : ∃ b, (t.data.toList == [48]) = b := ⟨_, rfl⟩
  have HE1 := Lib.hid he1
  have hd1 : (t.toList == [48]) = e1 := by rw [beq_toList]; exact he1
  obtain ⟨b, hb⟩ : ∃ b, negT s = b := ⟨_, rfl⟩
  have HLN := Lib.hid (len_data s)
  cases b with
  | false =>
    have hbd : bodyT s = s.data.toList := prefix_false hb
    have HF : Hid (formQ s t = (g1 && g2 && !e1)) := by show _ = _; unfold formQ; rw [hb, hg1, hg2, he1]; simp
    have HVD : Hid (s.data.toList = bodyT s) := hbd.symm
    have HG1 : Hid (goodD s.data.toList = g1) := by show _ = _; rw [HVD.out]; exact hg1
    have hv := hs
    by_cases hl : 1 < s.size
    · have hby := at_getD s (i := 0) (by omega)
      obtain ⟨x, hx⟩ : ∃ x, s[0].toNat = x := ⟨_, rfl⟩
      have hx45 : x ≠ 45 := by
        intro e
        have h1 : s.data.toList.getD 0 0 = 45 := UInt8.toNat_inj.1 (by rw [← hby, hx, e]; rfl)
        have h2 := HLN.out
        unfold negT at hb
        cases hl2 : s.data.toList with
        | nil => rw [hl2] at h2; simp at h2; omega
        | cons c r =>
          rw [hl2] at h1 hb
          have : c = 45 := h1
          rw [this, neg_cons] at hb
          cases hb
      have hx46 : ((x : Int) == 45) = false := by simp; omega
      have hl9 : (1 : Int) < (s.size : Int) := by omega
      clear hb hg1 hg2 he1 hbd hby hx45
      go_enter Tryz.func19, Tryz.ntmps19
      go_upto_region 1 with (fail)
      rw [← hW, ← hgx]
      clear hW hgx
      go_upto_region 4 with (fail)
      clear hl9
      cases g1 with
      | false =>
        have HV : Hid (chkQ s t = 3) := by show _ = _; unfold chkQ; rw [if_pos (by rw [HF.out]; simp)]
        go_wp2_with (first
          | (go_at_call 53; (with_reducible refine (RNUMB_any s hv _).mono ?_); rintro e w1 ⟨rfl, rfl⟩; rw [HG1.out])
          | (go_at_call 53; (with_reducible refine (RNUMB_any t ht _).mono ?_); rintro e w1 ⟨rfl, rfl⟩; rw [HG2.out]))
        go_ret
        exact ⟨by rw [HV.out]; rfl, HBW.out⟩
      | true =>
      cases g2 with
      | false =>
        have HV : Hid (chkQ s t = 3) := by show _ = _; unfold chkQ; rw [if_pos (by rw [HF.out]; simp)]
        go_wp2_with (first
          | (go_at_call 53; (with_reducible refine (RNUMB_any s hv _).mono ?_); rintro e w1 ⟨rfl, rfl⟩; rw [HG1.out])
          | (go_at_call 53; (with_reducible refine (RNUMB_any t ht _).mono ?_); rintro e w1 ⟨rfl, rfl⟩; rw [HG2.out]))
        go_ret
        exact ⟨by rw [HV.out]; rfl, HBW.out⟩
      | true =>
      cases e1 with
      | true =>
        have HV : Hid (chkQ s t = 3) := by show _ = _; unfold chkQ; rw [if_pos (by rw [HF.out]; simp)]
        go_wp2_with (first
          | (go_at_call 53; (with_reducible refine (RNUMB_any s hv _).mono ?_); rintro e w1 ⟨rfl, rfl⟩; rw [HG1.out])
          | (go_at_call 53; (with_reducible refine (RNUMB_any t ht _).mono ?_); rintro e w1 ⟨rfl, rfl⟩; rw [HG2.out]))
        go_ret
        exact ⟨by rw [HV.out]; rfl, HBW.out⟩
      | false =>
      by_cases hA : 2000 < s.size
      · have HV : Hid (chkQ s t = 2) := by show _ = _; unfold chkQ; rw [if_neg (by rw [HF.out]; simp), if_pos (.inl (by rw [← HVD.out, len_data]; exact hA))]
        go_wp2_with (first
          | (go_at_call 53; (with_reducible refine (RNUMB_any s hv _).mono ?_); rintro e w1 ⟨rfl, rfl⟩; rw [HG1.out])
          | (go_at_call 53; (with_reducible refine (RNUMB_any t ht _).mono ?_); rintro e w1 ⟨rfl, rfl⟩; rw [HG2.out]))
        go_ret
        exact ⟨by rw [HV.out]; rfl, HBW.out⟩
      by_cases hC : 2000 < t.size
      · have HV : Hid (chkQ s t = 2) := by show _ = _; unfold chkQ; rw [if_neg (by rw [HF.out]; simp), if_pos (.inr hC)]
        go_wp2_with (first
          | (go_at_call 53; (with_reducible refine (RNUMB_any s hv _).mono ?_); rintro e w1 ⟨rfl, rfl⟩; rw [HG1.out])
          | (go_at_call 53; (with_reducible refine (RNUMB_any t ht _).mono ?_); rintro e w1 ⟨rfl, rfl⟩; rw [HG2.out]))
        go_ret
        exact ⟨by rw [HV.out]; rfl, HBW.out⟩
      have HV : Hid (chkQ s t = if Nat.gcd (decV s.data.toList) (decV t.data.toList) = 1 then 0 else 3) := by
        show _ = _
        unfold chkQ
        rw [if_neg (by rw [HF.out]; simp), if_neg (by rw [← HVD.out, len_data]; omega), HVD.out]
      have HVA : Hid (AllDig s.data.toList) := (goodD_iff.1 HG1.out).1
      have HTA : Hid (AllDig t.data.toList) := (goodD_iff.1 HG2.out).1
      have HPS : Hid (0 < decV t.data.toList) := good_pos (goodD_iff.1 HG2.out) (by rw [← beq_eq_false_iff_ne]; exact HE1.out)
      go_upto_region 8 with (first
        | (go_at_call 53; (with_reducible refine (RNUMB_any s hv _).mono ?_); rintro e w1 ⟨rfl, rfl⟩; rw [HG1.out])
        | (go_at_call 53; (with_reducible refine (RNUMB_any t ht _).mono ?_); rintro e w1 ⟨rfl, rfl⟩; rw [HG2.out]))
      refine wp_region_text 9 (fun x => x.cell? ⟨gx, 1, none⟩ = some (.string t)) (by kernel_rfl) (by kernel_rfl) ?_
      obtain ⟨wc, hwc⟩ : ∃ x : World, x = W.drew := ⟨_, rfl⟩
      have HBc : Hid (Below W.heap.size W wc) := by show Below _ _ _; rw [hwc]; exact (Below.refl _ _).drew
      have hS : wc.cell? ⟨gx, 1, none⟩ = some (.string t) := by rw [hwc]; exact hc1
      have hgc : gx < wc.heap.size := by rw [hwc]; exact hgw
      rw [← hwc]
      clear hwc hc0 hc1
      refine HT.take (i := 0) (oi := _) (v := ?_) rfl (by kernel_rfl) (by kernel_rfl) (by decide) (fun _ _ _ h => h) (Or.inl ⟨by rfl, ?_⟩) hS ?_
      rotate_left
      · intro wz
        go_simp
        try with_reducible rfl
      simp only [List.getElem_toArray, List.getElem_cons_succ, List.getElem_cons_zero, Act.put, List.setIfInBounds_toArray, List.set_cons_zero, List.set_cons_succ]
      refine HT.take (i := 2) (oi := _) (v := ?_) rfl (by kernel_rfl) (by kernel_rfl) (by decide) (fun _ _ _ h => h) (Or.inl ⟨by rfl, ?_⟩) hS ?_
      rotate_left
      · intro wz
        go_simp
        try with_reducible rfl
      simp only [List.getElem_toArray, List.getElem_cons_succ, List.getElem_cons_zero, Act.put, List.setIfInBounds_toArray, List.set_cons_zero, List.set_cons_succ]
      refine HT.load (i := 3) (oi := _) (v := ?_) rfl (by kernel_rfl) (by kernel_rfl) (by decide) (fun _ _ _ h => h) (by kernel_rfl) (Or.inl ⟨by rfl, ?_⟩) hS ?_
      rotate_left
      · intro wz hwz
        try dsimp only at hwz
        go_simp
        try with_reducible rfl
      simp only [List.getElem_toArray, List.getElem_cons_succ, List.getElem_cons_zero, Act.put, List.setIfInBounds_toArray, List.set_cons_zero, List.set_cons_succ]
      refine HT.two 1 6 (o := _) (o' := _) rfl rfl (by kernel_rfl) (by decide) (by decide) (by rfl) (by rfl) ?_ ?_
      · intro K hK
        go_simp
        refine (RLIMBS_any s HVA (by omega) _).mono ?_
        rintro e wn ⟨A1, n1, c1, rfl, h1, k1, hbn⟩
        have H1 := Lib.hid h1
        clear h1
        skip
        have HBn := Lib.hid (HBc.out.trans (hbn.mono HBc.out.size))
        have hSn := (hbn.cell (p := ⟨gx, 1, none⟩) hgc).trans hS
        have hgn := Nat.lt_of_lt_of_le hgc hbn.size
        refine hK.out _ _ hSn ?_
        clear hK K hS HBc hgc
        try simp only [List.getElem_toArray, List.getElem_cons_succ, List.getElem_cons_zero, Act.put, List.setIfInBounds_toArray, List.set_cons_zero, List.set_cons_succ]
        have hS := hSn
        have HBc := HBn
        have hgc := hgn
        clear hSn HBn hgn hbn
        obtain ⟨wc, rfl⟩ : ∃ x : World, x = wn := ⟨_, rfl⟩
        refine HT.two 4 6 (o := _) (o' := _) rfl rfl (by kernel_rfl) (by decide) (by decide) (by rfl) (by rfl) ?_ ?_
        · intro K hK
          go_simp
          refine (RLIMBS_any t HTA (by omega) _).mono ?_
          rintro e wn ⟨A2, n2, c2, rfl, h2, k2, hbn⟩
          have H2 := Lib.hid h2
          clear h2
          skip
          replace H1 := Lib.hid (H1.out.to hbn (Nat.le_refl _) hbn.size)
          have HBn := Lib.hid (HBc.out.trans (hbn.mono HBc.out.size))
          have hSn := (hbn.cell (p := ⟨gx, 1, none⟩) hgc).trans hS
          have hgn := Nat.lt_of_lt_of_le hgc hbn.size
          refine hK.out _ _ hSn ?_
          clear hK K hS HBc hgc
          try simp only [List.getElem_toArray, List.getElem_cons_succ, List.getElem_cons_zero, Act.put, List.setIfInBounds_toArray, List.set_cons_zero, List.set_cons_succ]
          have hS := hSn
          have HBc := HBn
          have hgc := hgn
          clear hSn HBn hgn hbn
          obtain ⟨wc, rfl⟩ : ∃ x : World, x = wn := ⟨_, rfl⟩
          refine HT.two 5 6 (o := _) (o' := _) rfl rfl (by kernel_rfl) (by decide) (by decide) (by rfl) (by rfl) ?_ ?_
          · intro K hK
            go_simp
            refine (RCOMMON_any A1 A2 n1 c1 _ n2 c2 _ (by omega) (by omega) _ wc.heap.size (Nat.le_refl _) H1 H2).mono ?_
            rintro e wn ⟨A3, n3, c3, rfl, h3, k3, hbn⟩
            have H3 := Lib.hid h3
            clear h3 H1 H2
            skip
            have HBn := Lib.hid (HBc.out.trans (hbn.mono HBc.out.size))
            have hSn := (hbn.cell (p := ⟨gx, 1, none⟩) hgc).trans hS
            have hgn := Nat.lt_of_lt_of_le hgc hbn.size
            refine hK.out _ _ hSn ?_
            clear hK K hS HBc hgc
            try simp only [List.getElem_toArray, List.getElem_cons_succ, List.getElem_cons_zero, Act.put, List.setIfInBounds_toArray, List.set_cons_zero, List.set_cons_succ]
            have hS := hSn
            have HBc := HBn
            have hgc := hgn
            clear hSn HBn hgn hbn
            obtain ⟨wc, rfl⟩ : ∃ x : World, x = wn := ⟨_, rfl⟩
            refine HT.one (i := 6) (o := _) rfl (by kernel_rfl) (by decide) (by rfl) ?_
            intro K hK
            go_simp
            obtain ⟨wn, ga, hwn, hga, HA0, hbn0, _⟩ := rcell_new wc 3 #[.int .i64 1]
            have hbn := hbn0.out
            have HA : Hid (LimAt wn wn.heap.size (some ⟨ga, 0, none⟩) 1 1 1) := by
              have hb8 : BlkN .i64 3 wn ga [1] := HA0.out
              exact ⟨by omega, by simp [maxLen], [1], ⟨DigN.cons (by omega) (DigN.nil _), by simp⟩, by simp [valB], hb8.row hb8.lt⟩
            rw [← hwn, ← hga]
            clear hwn hga HA0 hbn0
            replace H3 := Lib.hid (H3.out.to hbn (Nat.le_refl _) hbn.size)
            have HBn := Lib.hid (HBc.out.trans (hbn.mono HBc.out.size))
            have hSn := (hbn.cell (p := ⟨gx, 1, none⟩) hgc).trans hS
            have hgn := Nat.lt_of_lt_of_le hgc hbn.size
            refine hK.out _ _ hSn ?_
            clear hK K hS HBc hgc
            try simp only [List.getElem_toArray, List.getElem_cons_succ, List.getElem_cons_zero, Act.put, List.setIfInBounds_toArray, List.set_cons_zero, List.set_cons_succ]
            have hS := hSn
            have HBc := HBn
            have hgc := hgn
            clear hSn HBn hgn hbn
            obtain ⟨wc, rfl⟩ : ∃ x : World, x = wn := ⟨_, rfl⟩
            refine HT.one (i := 7) (o := _) rfl (by kernel_rfl) (by decide) (by rfl) ?_
            intro K hK
            go_simp
            refine (RCMP_any A3 _ n3 c3 _ 1 1 1 _ wc.heap.size H3 HA).mono ?_
            rintro e wn ⟨rfl, hbn⟩
            have HBn := Lib.hid (HBc.out.trans (hbn.mono HBc.out.size))
            have hSn := (hbn.cell (p := ⟨gx, 1, none⟩) hgc).trans hS
            have hgn := Nat.lt_of_lt_of_le hgc hbn.size
            refine hK.out _ _ hSn ?_
            clear hK K hS HBc hgc
            try simp only [List.getElem_toArray, List.getElem_cons_succ, List.getElem_cons_zero, Act.put, List.setIfInBounds_toArray, List.set_cons_zero, List.set_cons_succ]
            have hS := hSn
            have HBc := HBn
            have hgc := hgn
            clear hSn HBn hgn hbn
            obtain ⟨wc, rfl⟩ : ∃ x : World, x = wn := ⟨_, rfl⟩
            refine HT.take (i := 8) (oi := _) (v := ?_) rfl (by kernel_rfl) (by kernel_rfl) (by decide) (fun _ _ _ h => h) (Or.inl ⟨by rfl, ?_⟩) hS ?_
            rotate_left
            · intro wz
              go_simp
              try with_reducible rfl
            simp only [List.getElem_toArray, List.getElem_cons_succ, List.getElem_cons_zero, Act.put, List.setIfInBounds_toArray, List.set_cons_zero, List.set_cons_succ]
            refine HT.done (by kernel_rfl) ?_
            clear hS
            simp only [List.drop_succ_cons, List.drop_zero]
            by_cases hg : Nat.gcd (decV s.data.toList) (decV t.data.toList) = 1
            · have hkc : cmpN (Nat.gcd (decV s.data.toList) (decV t.data.toList)) 1 = 0 := cmpN_eq hg
              have HVV : Hid (chkQ s t = 0) := by show _ = _; rw [HV.out, if_pos hg]
              rw [hkc]
              clear hkc hg
              go_wp2_with fail
              go_ret
              exact ⟨by rw [HVV.out]; rfl, HBW.out.trans (HBc.out.mono HBW.out.size)⟩
            · have hkc : (cmpN (Nat.gcd (decV s.data.toList) (decV t.data.toList)) 1 != 0) = true := by
                have hgp := Nat.gcd_pos_of_pos_right (decV s.data.toList) HPS.out
                unfold cmpN
                rw [if_neg (by omega), if_neg hg]; rfl
              have HVV : Hid (chkQ s t = 3) := by show _ = _; rw [HV.out, if_neg hg]
              obtain ⟨kc, hkk⟩ : ∃ kc, cmpN (Nat.gcd (decV s.data.toList) (decV t.data.toList)) 1 = kc := ⟨_, rfl⟩
              rw [hkk] at hkc ⊢
              clear hkk hg
              go_wp2_with fail
              go_ret
              exact ⟨by rw [HVV.out]; rfl, HBW.out.trans (HBc.out.mono HBW.out.size)⟩
          · intro K hK
            go_simp
            obtain ⟨wn, ga, hwn, hga, HA0, hbn0, _⟩ := rcell_new wc 3 #[.int .i64 1]
            have hbn := hbn0.out
            have HA : Hid (LimAt wn wn.heap.size (some ⟨ga, 0, none⟩) 1 1 1) := by
              have hb8 : BlkN .i64 3 wn ga [1] := HA0.out
              exact ⟨by omega, by simp [maxLen], [1], ⟨DigN.cons (by omega) (DigN.nil _), by simp⟩, by simp [valB], hb8.row hb8.lt⟩
            rw [← hwn, ← hga]
            clear hwn hga HA0 hbn0
            replace H1 := Lib.hid (H1.out.to hbn (Nat.le_refl _) hbn.size); replace H2 := Lib.hid (H2.out.to hbn (Nat.le_refl _) hbn.size)
            have HBn := Lib.hid (HBc.out.trans (hbn.mono HBc.out.size))
            have hSn := (hbn.cell (p := ⟨gx, 1, none⟩) hgc).trans hS
            have hgn := Nat.lt_of_lt_of_le hgc hbn.size
            refine hK.out _ _ hSn ?_
            clear hK K hS HBc hgc
            try simp only [List.getElem_toArray, List.getElem_cons_succ, List.getElem_cons_zero, Act.put, List.setIfInBounds_toArray, List.set_cons_zero, List.set_cons_succ]
            have hS := hSn
            have HBc := HBn
            have hgc := hgn
            clear hSn HBn hgn hbn
            obtain ⟨wc, rfl⟩ : ∃ x : World, x = wn := ⟨_, rfl⟩
            refine HT.one (i := 5) (o := _) rfl (by kernel_rfl) (by decide) (by rfl) ?_
            intro K hK
            go_simp
            refine (RCOMMON_any A1 A2 n1 c1 _ n2 c2 _ (by omega) (by omega) _ wc.heap.size (Nat.le_refl _) H1 H2).mono ?_
            rintro e wn ⟨A3, n3, c3, rfl, h3, k3, hbn⟩
            have H3 := Lib.hid h3
            clear h3 H1 H2
            replace HA := Lib.hid (HA.out.to hbn (Nat.le_refl _) hbn.size)
            have HBn := Lib.hid (HBc.out.trans (hbn.mono HBc.out.size))
            have hSn := (hbn.cell (p := ⟨gx, 1, none⟩) hgc).trans hS
            have hgn := Nat.lt_of_lt_of_le hgc hbn.size
            refine hK.out _ _ hSn ?_
            clear hK K hS HBc hgc
            try simp only [List.getElem_toArray, List.getElem_cons_succ, List.getElem_cons_zero, Act.put, List.setIfInBounds_toArray, List.set_cons_zero, List.set_cons_succ]
            have hS := hSn
            have HBc := HBn
            have hgc := hgn
            clear hSn HBn hgn hbn
            obtain ⟨wc, rfl⟩ : ∃ x : World, x = wn := ⟨_, rfl⟩
            refine HT.one (i := 7) (o := _) rfl (by kernel_rfl) (by decide) (by rfl) ?_
            intro K hK
            go_simp
            refine (RCMP_any A3 _ n3 c3 _ 1 1 1 _ wc.heap.size H3 HA).mono ?_
            rintro e wn ⟨rfl, hbn⟩
            have HBn := Lib.hid (HBc.out.trans (hbn.mono HBc.out.size))
            have hSn := (hbn.cell (p := ⟨gx, 1, none⟩) hgc).trans hS
            have hgn := Nat.lt_of_lt_of_le hgc hbn.size
            refine hK.out _ _ hSn ?_
            clear hK K hS HBc hgc
            try simp only [List.getElem_toArray, List.getElem_cons_succ, List.getElem_cons_zero, Act.put, List.setIfInBounds_toArray, List.set_cons_zero, List.set_cons_succ]
            have hS := hSn
            have HBc := HBn
            have hgc := hgn
            clear hSn HBn hgn hbn
            obtain ⟨wc, rfl⟩ : ∃ x : World, x = wn := ⟨_, rfl⟩
            refine HT.take (i := 8) (oi := _) (v := ?_) rfl (by kernel_rfl) (by kernel_rfl) (by decide) (fun _ _ _ h => h) (Or.inl ⟨by rfl, ?_⟩) hS ?_
            rotate_left
            · intro wz
              go_simp
              try with_reducible rfl
            simp only [List.getElem_toArray, List.getElem_cons_succ, List.getElem_cons_zero, Act.put, List.setIfInBounds_toArray, List.set_cons_zero, List.set_cons_succ]
            refine HT.done (by kernel_rfl) ?_
            clear hS
            simp only [List.drop_succ_cons, List.drop_zero]
            by_cases hg : Nat.gcd (decV s.data.toList) (decV t.data.toList) = 1
            · have hkc : cmpN (Nat.gcd (decV s.data.toList) (decV t.data.toList)) 1 = 0 := cmpN_eq hg
              have HVV : Hid (chkQ s t = 0) := by show _ = _; rw [HV.out, if_pos hg]
              rw [hkc]
              clear hkc hg
              go_wp2_with fail
              go_ret
              exact ⟨by rw [HVV.out]; rfl, HBW.out.trans (HBc.out.mono HBW.out.size)⟩
            · have hkc : (cmpN (Nat.gcd (decV s.data.toList) (decV t.data.toList)) 1 != 0) = true := by
                have hgp := Nat.gcd_pos_of_pos_right (decV s.data.toList) HPS.out
                unfold cmpN
                rw [if_neg (by omega), if_neg hg]; rfl
              have HVV : Hid (chkQ s t = 3) := by show _ = _; rw [HV.out, if_neg hg]
              obtain ⟨kc, hkk⟩ : ∃ kc, cmpN (Nat.gcd (decV s.data.toList) (decV t.data.toList)) 1 = kc := ⟨_, rfl⟩
              rw [hkk] at hkc ⊢
              clear hkk hg
              go_wp2_with fail
              go_ret
              exact ⟨by rw [HVV.out]; rfl, HBW.out.trans (HBc.out.mono HBW.out.size)⟩
        · intro K hK
          go_simp
          obtain ⟨wn, ga, hwn, hga, HA0, hbn0, _⟩ := rcell_new wc 3 #[.int .i64 1]
          have hbn := hbn0.out
          have HA : Hid (LimAt wn wn.heap.size (some ⟨ga, 0, none⟩) 1 1 1) := by
            have hb8 : BlkN .i64 3 wn ga [1] := HA0.out
            exact ⟨by omega, by simp [maxLen], [1], ⟨DigN.cons (by omega) (DigN.nil _), by simp⟩, by simp [valB], hb8.row hb8.lt⟩
          rw [← hwn, ← hga]
          clear hwn hga HA0 hbn0
          replace H1 := Lib.hid (H1.out.to hbn (Nat.le_refl _) hbn.size)
          have HBn := Lib.hid (HBc.out.trans (hbn.mono HBc.out.size))
          have hSn := (hbn.cell (p := ⟨gx, 1, none⟩) hgc).trans hS
          have hgn := Nat.lt_of_lt_of_le hgc hbn.size
          refine hK.out _ _ hSn ?_
          clear hK K hS HBc hgc
          try simp only [List.getElem_toArray, List.getElem_cons_succ, List.getElem_cons_zero, Act.put, List.setIfInBounds_toArray, List.set_cons_zero, List.set_cons_succ]
          have hS := hSn
          have HBc := HBn
          have hgc := hgn
          clear hSn HBn hgn hbn
          obtain ⟨wc, rfl⟩ : ∃ x : World, x = wn := ⟨_, rfl⟩
          refine HT.one (i := 4) (o := _) rfl (by kernel_rfl) (by decide) (by rfl) ?_
          intro K hK
          go_simp
          refine (RLIMBS_any t HTA (by omega) _).mono ?_
          rintro e wn ⟨A2, n2, c2, rfl, h2, k2, hbn⟩
          have H2 := Lib.hid h2
          clear h2
          replace HA := Lib.hid (HA.out.to hbn (Nat.le_refl _) hbn.size)
          replace H1 := Lib.hid (H1.out.to hbn (Nat.le_refl _) hbn.size)
          have HBn := Lib.hid (HBc.out.trans (hbn.mono HBc.out.size))
          have hSn := (hbn.cell (p := ⟨gx, 1, none⟩) hgc).trans hS
          have hgn := Nat.lt_of_lt_of_le hgc hbn.size
          refine hK.out _ _ hSn ?_
          clear hK K hS HBc hgc
          try simp only [List.getElem_toArray, List.getElem_cons_succ, List.getElem_cons_zero, Act.put, List.setIfInBounds_toArray, List.set_cons_zero, List.set_cons_succ]
          have hS := hSn
          have HBc := HBn
          have hgc := hgn
          clear hSn HBn hgn hbn
          obtain ⟨wc, rfl⟩ : ∃ x : World, x = wn := ⟨_, rfl⟩
          refine HT.one (i := 5) (o := _) rfl (by kernel_rfl) (by decide) (by rfl) ?_
          intro K hK
          go_simp
          refine (RCOMMON_any A1 A2 n1 c1 _ n2 c2 _ (by omega) (by omega) _ wc.heap.size (Nat.le_refl _) H1 H2).mono ?_
          rintro e wn ⟨A3, n3, c3, rfl, h3, k3, hbn⟩
          have H3 := Lib.hid h3
          clear h3 H1 H2
          replace HA := Lib.hid (HA.out.to hbn (Nat.le_refl _) hbn.size)
          have HBn := Lib.hid (HBc.out.trans (hbn.mono HBc.out.size))
          have hSn := (hbn.cell (p := ⟨gx, 1, none⟩) hgc).trans hS
          have hgn := Nat.lt_of_lt_of_le hgc hbn.size
          refine hK.out _ _ hSn ?_
          clear hK K hS HBc hgc
          try simp only [List.getElem_toArray, List.getElem_cons_succ, List.getElem_cons_zero, Act.put, List.setIfInBounds_toArray, List.set_cons_zero, List.set_cons_succ]
          have hS := hSn
          have HBc := HBn
          have hgc := hgn
          clear hSn HBn hgn hbn
          obtain ⟨wc, rfl⟩ : ∃ x : World, x = wn := ⟨_, rfl⟩
          refine HT.one (i := 7) (o := _) rfl (by kernel_rfl) (by decide) (by rfl) ?_
          intro K hK
          go_simp
          refine (RCMP_any A3 _ n3 c3 _ 1 1 1 _ wc.heap.size H3 HA).mono ?_
          rintro e wn ⟨rfl, hbn⟩
          have HBn := Lib.hid (HBc.out.trans (hbn.mono HBc.out.size))
          have hSn := (hbn.cell (p := ⟨gx, 1, none⟩) hgc).trans hS
          have hgn := Nat.lt_of_lt_of_le hgc hbn.size
          refine hK.out _ _ hSn ?_
          clear hK K hS HBc hgc
          try simp only [List.getElem_toArray, List.getElem_cons_succ, List.getElem_cons_zero, Act.put, List.setIfInBounds_toArray, List.set_cons_zero, List.set_cons_succ]
          have hS := hSn
          have HBc := HBn
          have hgc := hgn
          clear hSn HBn hgn hbn
          obtain ⟨wc, rfl⟩ : ∃ x : World, x = wn := ⟨_, rfl⟩
          refine HT.take (i := 8) (oi := _) (v := ?_) rfl (by kernel_rfl) (by kernel_rfl) (by decide) (fun _ _ _ h => h) (Or.inl ⟨by rfl, ?_⟩) hS ?_
          rotate_left
          · intro wz
            go_simp
            try with_reducible rfl
          simp only [List.getElem_toArray, List.getElem_cons_succ, List.getElem_cons_zero, Act.put, List.setIfInBounds_toArray, List.set_cons_zero, List.set_cons_succ]
          refine HT.done (by kernel_rfl) ?_
          clear hS
          simp only [List.drop_succ_cons, List.drop_zero]
          by_cases hg : Nat.gcd (decV s.data.toList) (decV t.data.toList) = 1
          · have hkc : cmpN (Nat.gcd (decV s.data.toList) (decV t.data.toList)) 1 = 0 := cmpN_eq hg
            have HVV : Hid (chkQ s t = 0) := by show _ = _; rw [HV.out, if_pos hg]
            rw [hkc]
            clear hkc hg
            go_wp2_with fail
            go_ret
            exact ⟨by rw [HVV.out]; rfl, HBW.out.trans (HBc.out.mono HBW.out.size)⟩
          · have hkc : (cmpN (Nat.gcd (decV s.data.toList) (decV t.data.toList)) 1 != 0) = true := by
              have hgp := Nat.gcd_pos_of_pos_right (decV s.data.toList) HPS.out
              unfold cmpN
              rw [if_neg (by omega), if_neg hg]; rfl
            have HVV : Hid (chkQ s t = 3) := by show _ = _; rw [HV.out, if_neg hg]
            obtain ⟨kc, hkk⟩ : ∃ kc, cmpN (Nat.gcd (decV s.data.toList) (decV t.data.toList)) 1 = kc := ⟨_, rfl⟩
            rw [hkk] at hkc ⊢
            clear hkk hg
            go_wp2_with fail
            go_ret
            exact ⟨by rw [HVV.out]; rfl, HBW.out.trans (HBc.out.mono HBW.out.size)⟩
      · intro K hK
        go_simp
        obtain ⟨wn, ga, hwn, hga, HA0, hbn0, _⟩ := rcell_new wc 3 #[.int .i64 1]
        have hbn := hbn0.out
        have HA : Hid (LimAt wn wn.heap.size (some ⟨ga, 0, none⟩) 1 1 1) := by
          have hb8 : BlkN .i64 3 wn ga [1] := HA0.out
          exact ⟨by omega, by simp [maxLen], [1], ⟨DigN.cons (by omega) (DigN.nil _), by simp⟩, by simp [valB], hb8.row hb8.lt⟩
        rw [← hwn, ← hga]
        clear hwn hga HA0 hbn0
        skip
        have HBn := Lib.hid (HBc.out.trans (hbn.mono HBc.out.size))
        have hSn := (hbn.cell (p := ⟨gx, 1, none⟩) hgc).trans hS
        have hgn := Nat.lt_of_lt_of_le hgc hbn.size
        refine hK.out _ _ hSn ?_
        clear hK K hS HBc hgc
        try simp only [List.getElem_toArray, List.getElem_cons_succ, List.getElem_cons_zero, Act.put, List.setIfInBounds_toArray, List.set_cons_zero, List.set_cons_succ]
        have hS := hSn
        have HBc := HBn
        have hgc := hgn
        clear hSn HBn hgn hbn
        obtain ⟨wc, rfl⟩ : ∃ x : World, x = wn := ⟨_, rfl⟩
        refine HT.one (i := 1) (o := _) rfl (by kernel_rfl) (by decide) (by rfl) ?_
        intro K hK
        go_simp
        refine (RLIMBS_any s HVA (by omega) _).mono ?_
        rintro e wn ⟨A1, n1, c1, rfl, h1, k1, hbn⟩
        have H1 := Lib.hid h1
        clear h1
        replace HA := Lib.hid (HA.out.to hbn (Nat.le_refl _) hbn.size)
        have HBn := Lib.hid (HBc.out.trans (hbn.mono HBc.out.size))
        have hSn := (hbn.cell (p := ⟨gx, 1, none⟩) hgc).trans hS
        have hgn := Nat.lt_of_lt_of_le hgc hbn.size
        refine hK.out _ _ hSn ?_
        clear hK K hS HBc hgc
        try simp only [List.getElem_toArray, List.getElem_cons_succ, List.getElem_cons_zero, Act.put, List.setIfInBounds_toArray, List.set_cons_zero, List.set_cons_succ]
        have hS := hSn
        have HBc := HBn
        have hgc := hgn
        clear hSn HBn hgn hbn
        obtain ⟨wc, rfl⟩ : ∃ x : World, x = wn := ⟨_, rfl⟩
        refine HT.one (i := 4) (o := _) rfl (by kernel_rfl) (by decide) (by rfl) ?_
        intro K hK
        go_simp
        refine (RLIMBS_any t HTA (by omega) _).mono ?_
        rintro e wn ⟨A2, n2, c2, rfl, h2, k2, hbn⟩
        have H2 := Lib.hid h2
        clear h2
        replace HA := Lib.hid (HA.out.to hbn (Nat.le_refl _) hbn.size)
        replace H1 := Lib.hid (H1.out.to hbn (Nat.le_refl _) hbn.size)
        have HBn := Lib.hid (HBc.out.trans (hbn.mono HBc.out.size))
        have hSn := (hbn.cell (p := ⟨gx, 1, none⟩) hgc).trans hS
        have hgn := Nat.lt_of_lt_of_le hgc hbn.size
        refine hK.out _ _ hSn ?_
        clear hK K hS HBc hgc
        try simp only [List.getElem_toArray, List.getElem_cons_succ, List.getElem_cons_zero, Act.put, List.setIfInBounds_toArray, List.set_cons_zero, List.set_cons_succ]
        have hS := hSn
        have HBc := HBn
        have hgc := hgn
        clear hSn HBn hgn hbn
        obtain ⟨wc, rfl⟩ : ∃ x : World, x = wn := ⟨_, rfl⟩
        refine HT.one (i := 5) (o := _) rfl (by kernel_rfl) (by decide) (by rfl) ?_
        intro K hK
        go_simp
        refine (RCOMMON_any A1 A2 n1 c1 _ n2 c2 _ (by omega) (by omega) _ wc.heap.size (Nat.le_refl _) H1 H2).mono ?_
        rintro e wn ⟨A3, n3, c3, rfl, h3, k3, hbn⟩
        have H3 := Lib.hid h3
        clear h3 H1 H2
        replace HA := Lib.hid (HA.out.to hbn (Nat.le_refl _) hbn.size)
        have HBn := Lib.hid (HBc.out.trans (hbn.mono HBc.out.size))
        have hSn := (hbn.cell (p := ⟨gx, 1, none⟩) hgc).trans hS
        have hgn := Nat.lt_of_lt_of_le hgc hbn.size
        refine hK.out _ _ hSn ?_
        clear hK K hS HBc hgc
        try simp only [List.getElem_toArray, List.getElem_cons_succ, List.getElem_cons_zero, Act.put, List.setIfInBounds_toArray, List.set_cons_zero, List.set_cons_succ]
        have hS := hSn
        have HBc := HBn
        have hgc := hgn
        clear hSn HBn hgn hbn
        obtain ⟨wc, rfl⟩ : ∃ x : World, x = wn := ⟨_, rfl⟩
        refine HT.one (i := 7) (o := _) rfl (by kernel_rfl) (by decide) (by rfl) ?_
        intro K hK
        go_simp
        refine (RCMP_any A3 _ n3 c3 _ 1 1 1 _ wc.heap.size H3 HA).mono ?_
        rintro e wn ⟨rfl, hbn⟩
        have HBn := Lib.hid (HBc.out.trans (hbn.mono HBc.out.size))
        have hSn := (hbn.cell (p := ⟨gx, 1, none⟩) hgc).trans hS
        have hgn := Nat.lt_of_lt_of_le hgc hbn.size
        refine hK.out _ _ hSn ?_
        clear hK K hS HBc hgc
        try simp only [List.getElem_toArray, List.getElem_cons_succ, List.getElem_cons_zero, Act.put, List.setIfInBounds_toArray, List.set_cons_zero, List.set_cons_succ]
        have hS := hSn
        have HBc := HBn
        have hgc := hgn
        clear hSn HBn hgn hbn
        obtain ⟨wc, rfl⟩ : ∃ x : World, x = wn := ⟨_, rfl⟩
        refine HT.take (i := 8) (oi := _) (v := ?_) rfl (by kernel_rfl) (by kernel_rfl) (by decide) (fun _ _ _ h => h) (Or.inl ⟨by rfl, ?_⟩) hS ?_
        rotate_left
        · intro wz
          go_simp
          try with_reducible rfl
        simp only [List.getElem_toArray, List.getElem_cons_succ, List.getElem_cons_zero, Act.put, List.setIfInBounds_toArray, List.set_cons_zero, List.set_cons_succ]
        refine HT.done (by kernel_rfl) ?_
        clear hS
        simp only [List.drop_succ_cons, List.drop_zero]
        by_cases hg : Nat.gcd (decV s.data.toList) (decV t.data.toList) = 1
        · have hkc : cmpN (Nat.gcd (decV s.data.toList) (decV t.data.toList)) 1 = 0 := cmpN_eq hg
          have HVV : Hid (chkQ s t = 0) := by show _ = _; rw [HV.out, if_pos hg]
          rw [hkc]
          clear hkc hg
          go_wp2_with fail
          go_ret
          exact ⟨by rw [HVV.out]; rfl, HBW.out.trans (HBc.out.mono HBW.out.size)⟩
        · have hkc : (cmpN (Nat.gcd (decV s.data.toList) (decV t.data.toList)) 1 != 0) = true := by
            have hgp := Nat.gcd_pos_of_pos_right (decV s.data.toList) HPS.out
            unfold cmpN
            rw [if_neg (by omega), if_neg hg]; rfl
          have HVV : Hid (chkQ s t = 3) := by show _ = _; rw [HV.out, if_neg hg]
          obtain ⟨kc, hkk⟩ : ∃ kc, cmpN (Nat.gcd (decV s.data.toList) (decV t.data.toList)) 1 = kc := ⟨_, rfl⟩
          rw [hkk] at hkc ⊢
          clear hkk hg
          go_wp2_with fail
          go_ret
          exact ⟨by rw [HVV.out]; rfl, HBW.out.trans (HBc.out.mono HBW.out.size)⟩
    · have hl9 : ¬ (1 : Int) < (s.size : Int) := by omega
      clear hb hg1 hg2 he1 hbd hl
      go_enter Tryz.func19, Tryz.ntmps19
      go_upto_region 1 with (fail)
      rw [← hW, ← hgx]
      clear hW hgx
      go_upto_region 4 with (fail)
      clear hl9
      cases g1 with
      | false =>
        have HV : Hid (chkQ s t = 3) := by show _ = _; unfold chkQ; rw [if_pos (by rw [HF.out]; simp)]
        go_wp2_with (first
          | (go_at_call 53; (with_reducible refine (RNUMB_any s hv _).mono ?_); rintro e w1 ⟨rfl, rfl⟩; rw [HG1.out])
          | (go_at_call 53; (with_reducible refine (RNUMB_any t ht _).mono ?_); rintro e w1 ⟨rfl, rfl⟩; rw [HG2.out]))
        go_ret
        exact ⟨by rw [HV.out]; rfl, HBW.out⟩
      | true =>
      cases g2 with
      | false =>
        have HV : Hid (chkQ s t = 3) := by show _ = _; unfold chkQ; rw [if_pos (by rw [HF.out]; simp)]
        go_wp2_with (first
          | (go_at_call 53; (with_reducible refine (RNUMB_any s hv _).mono ?_); rintro e w1 ⟨rfl, rfl⟩; rw [HG1.out])
          | (go_at_call 53; (with_reducible refine (RNUMB_any t ht _).mono ?_); rintro e w1 ⟨rfl, rfl⟩; rw [HG2.out]))
        go_ret
        exact ⟨by rw [HV.out]; rfl, HBW.out⟩
      | true =>
      cases e1 with
      | true =>
        have HV : Hid (chkQ s t = 3) := by show _ = _; unfold chkQ; rw [if_pos (by rw [HF.out]; simp)]
        go_wp2_with (first
          | (go_at_call 53; (with_reducible refine (RNUMB_any s hv _).mono ?_); rintro e w1 ⟨rfl, rfl⟩; rw [HG1.out])
          | (go_at_call 53; (with_reducible refine (RNUMB_any t ht _).mono ?_); rintro e w1 ⟨rfl, rfl⟩; rw [HG2.out]))
        go_ret
        exact ⟨by rw [HV.out]; rfl, HBW.out⟩
      | false =>
      by_cases hA : 2000 < s.size
      · have HV : Hid (chkQ s t = 2) := by show _ = _; unfold chkQ; rw [if_neg (by rw [HF.out]; simp), if_pos (.inl (by rw [← HVD.out, len_data]; exact hA))]
        go_wp2_with (first
          | (go_at_call 53; (with_reducible refine (RNUMB_any s hv _).mono ?_); rintro e w1 ⟨rfl, rfl⟩; rw [HG1.out])
          | (go_at_call 53; (with_reducible refine (RNUMB_any t ht _).mono ?_); rintro e w1 ⟨rfl, rfl⟩; rw [HG2.out]))
        go_ret
        exact ⟨by rw [HV.out]; rfl, HBW.out⟩
      by_cases hC : 2000 < t.size
      · have HV : Hid (chkQ s t = 2) := by show _ = _; unfold chkQ; rw [if_neg (by rw [HF.out]; simp), if_pos (.inr hC)]
        go_wp2_with (first
          | (go_at_call 53; (with_reducible refine (RNUMB_any s hv _).mono ?_); rintro e w1 ⟨rfl, rfl⟩; rw [HG1.out])
          | (go_at_call 53; (with_reducible refine (RNUMB_any t ht _).mono ?_); rintro e w1 ⟨rfl, rfl⟩; rw [HG2.out]))
        go_ret
        exact ⟨by rw [HV.out]; rfl, HBW.out⟩
      have HV : Hid (chkQ s t = if Nat.gcd (decV s.data.toList) (decV t.data.toList) = 1 then 0 else 3) := by
        show _ = _
        unfold chkQ
        rw [if_neg (by rw [HF.out]; simp), if_neg (by rw [← HVD.out, len_data]; omega), HVD.out]
      have HVA : Hid (AllDig s.data.toList) := (goodD_iff.1 HG1.out).1
      have HTA : Hid (AllDig t.data.toList) := (goodD_iff.1 HG2.out).1
      have HPS : Hid (0 < decV t.data.toList) := good_pos (goodD_iff.1 HG2.out) (by rw [← beq_eq_false_iff_ne]; exact HE1.out)
      go_upto_region 8 with (first
        | (go_at_call 53; (with_reducible refine (RNUMB_any s hv _).mono ?_); rintro e w1 ⟨rfl, rfl⟩; rw [HG1.out])
        | (go_at_call 53; (with_reducible refine (RNUMB_any t ht _).mono ?_); rintro e w1 ⟨rfl, rfl⟩; rw [HG2.out]))
      refine wp_region_text 9 (fun x => x.cell? ⟨gx, 1, none⟩ = some (.string t)) (by kernel_rfl) (by kernel_rfl) ?_
      obtain ⟨wc, hwc⟩ : ∃ x : World, x = W.drew := ⟨_, rfl⟩
      have HBc : Hid (Below W.heap.size W wc) := by show Below _ _ _; rw [hwc]; exact (Below.refl _ _).drew
      have hS : wc.cell? ⟨gx, 1, none⟩ = some (.string t) := by rw [hwc]; exact hc1
      have hgc : gx < wc.heap.size := by rw [hwc]; exact hgw
      rw [← hwc]
      clear hwc hc0 hc1
      refine HT.take (i := 0) (oi := _) (v := ?_) rfl (by kernel_rfl) (by kernel_rfl) (by decide) (fun _ _ _ h => h) (Or.inl ⟨by rfl, ?_⟩) hS ?_
      rotate_left
      · intro wz
        go_simp
        try with_reducible rfl
      simp only [List.getElem_toArray, List.getElem_cons_succ, List.getElem_cons_zero, Act.put, List.setIfInBounds_toArray, List.set_cons_zero, List.set_cons_succ]
      refine HT.take (i := 2) (oi := _) (v := ?_) rfl (by kernel_rfl) (by kernel_rfl) (by decide) (fun _ _ _ h => h) (Or.inl ⟨by rfl, ?_⟩) hS ?_
      rotate_left
      · intro wz
        go_simp
        try with_reducible rfl
      simp only [List.getElem_toArray, List.getElem_cons_succ, List.getElem_cons_zero, Act.put, List.setIfInBounds_toArray, List.set_cons_zero, List.set_cons_succ]
      refine HT.load (i := 3) (oi := _) (v := ?_) rfl (by kernel_rfl) (by kernel_rfl) (by decide) (fun _ _ _ h => h) (by kernel_rfl) (Or.inl ⟨by rfl, ?_⟩) hS ?_
      rotate_left
      · intro wz hwz
        try dsimp only at hwz
        go_simp
        try with_reducible rfl
      simp only [List.getElem_toArray, List.getElem_cons_succ, List.getElem_cons_zero, Act.put, List.setIfInBounds_toArray, List.set_cons_zero, List.set_cons_succ]
      refine HT.two 1 6 (o := _) (o' := _) rfl rfl (by kernel_rfl) (by decide) (by decide) (by rfl) (by rfl) ?_ ?_
      · intro K hK
        go_simp
        refine (RLIMBS_any s HVA (by omega) _).mono ?_
        rintro e wn ⟨A1, n1, c1, rfl, h1, k1, hbn⟩
        have H1 := Lib.hid h1
        clear h1
        skip
        have HBn := Lib.hid (HBc.out.trans (hbn.mono HBc.out.size))
        have hSn := (hbn.cell (p := ⟨gx, 1, none⟩) hgc).trans hS
        have hgn := Nat.lt_of_lt_of_le hgc hbn.size
        refine hK.out _ _ hSn ?_
        clear hK K hS HBc hgc
        try simp only [List.getElem_toArray, List.getElem_cons_succ, List.getElem_cons_zero, Act.put, List.setIfInBounds_toArray, List.set_cons_zero, List.set_cons_succ]
        have hS := hSn
        have HBc := HBn
        have hgc := hgn
        clear hSn HBn hgn hbn
        obtain ⟨wc, rfl⟩ : ∃ x : World, x = wn := ⟨_, rfl⟩
        refine HT.two 4 6 (o := _) (o' := _) rfl rfl (by kernel_rfl) (by decide) (by decide) (by rfl) (by rfl) ?_ ?_
        · intro K hK
          go_simp
          refine (RLIMBS_any t HTA (by omega) _).mono ?_
          rintro e wn ⟨A2, n2, c2, rfl, h2, k2, hbn⟩
          have H2 := Lib.hid h2
          clear h2
          skip
          replace H1 := Lib.hid (H1.out.to hbn (Nat.le_refl _) hbn.size)
          have HBn := Lib.hid (HBc.out.trans (hbn.mono HBc.out.size))
          have hSn := (hbn.cell (p := ⟨gx, 1, none⟩) hgc).trans hS
          have hgn := Nat.lt_of_lt_of_le hgc hbn.size
          refine hK.out _ _ hSn ?_
          clear hK K hS HBc hgc
          try simp only [List.getElem_toArray, List.getElem_cons_succ, List.getElem_cons_zero, Act.put, List.setIfInBounds_toArray, List.set_cons_zero, List.set_cons_succ]
          have hS := hSn
          have HBc := HBn
          have hgc := hgn
          clear hSn HBn hgn hbn
          obtain ⟨wc, rfl⟩ : ∃ x : World, x = wn := ⟨_, rfl⟩
          refine HT.two 5 6 (o := _) (o' := _) rfl rfl (by kernel_rfl) (by decide) (by decide) (by rfl) (by rfl) ?_ ?_
          · intro K hK
            go_simp
            refine (RCOMMON_any A1 A2 n1 c1 _ n2 c2 _ (by omega) (by omega) _ wc.heap.size (Nat.le_refl _) H1 H2).mono ?_
            rintro e wn ⟨A3, n3, c3, rfl, h3, k3, hbn⟩
            have H3 := Lib.hid h3
            clear h3 H1 H2
            skip
            have HBn := Lib.hid (HBc.out.trans (hbn.mono HBc.out.size))
            have hSn := (hbn.cell (p := ⟨gx, 1, none⟩) hgc).trans hS
            have hgn := Nat.lt_of_lt_of_le hgc hbn.size
            refine hK.out _ _ hSn ?_
            clear hK K hS HBc hgc
            try simp only [List.getElem_toArray, List.getElem_cons_succ, List.getElem_cons_zero, Act.put, List.setIfInBounds_toArray, List.set_cons_zero, List.set_cons_succ]
            have hS := hSn
            have HBc := HBn
            have hgc := hgn
            clear hSn HBn hgn hbn
            obtain ⟨wc, rfl⟩ : ∃ x : World, x = wn := ⟨_, rfl⟩
            refine HT.one (i := 6) (o := _) rfl (by kernel_rfl) (by decide) (by rfl) ?_
            intro K hK
            go_simp
            obtain ⟨wn, ga, hwn, hga, HA0, hbn0, _⟩ := rcell_new wc 3 #[.int .i64 1]
            have hbn := hbn0.out
            have HA : Hid (LimAt wn wn.heap.size (some ⟨ga, 0, none⟩) 1 1 1) := by
              have hb8 : BlkN .i64 3 wn ga [1] := HA0.out
              exact ⟨by omega, by simp [maxLen], [1], ⟨DigN.cons (by omega) (DigN.nil _), by simp⟩, by simp [valB], hb8.row hb8.lt⟩
            rw [← hwn, ← hga]
            clear hwn hga HA0 hbn0
            replace H3 := Lib.hid (H3.out.to hbn (Nat.le_refl _) hbn.size)
            have HBn := Lib.hid (HBc.out.trans (hbn.mono HBc.out.size))
            have hSn := (hbn.cell (p := ⟨gx, 1, none⟩) hgc).trans hS
            have hgn := Nat.lt_of_lt_of_le hgc hbn.size
            refine hK.out _ _ hSn ?_
            clear hK K hS HBc hgc
            try simp only [List.getElem_toArray, List.getElem_cons_succ, List.getElem_cons_zero, Act.put, List.setIfInBounds_toArray, List.set_cons_zero, List.set_cons_succ]
            have hS := hSn
            have HBc := HBn
            have hgc := hgn
            clear hSn HBn hgn hbn
            obtain ⟨wc, rfl⟩ : ∃ x : World, x = wn := ⟨_, rfl⟩
            refine HT.one (i := 7) (o := _) rfl (by kernel_rfl) (by decide) (by rfl) ?_
            intro K hK
            go_simp
            refine (RCMP_any A3 _ n3 c3 _ 1 1 1 _ wc.heap.size H3 HA).mono ?_
            rintro e wn ⟨rfl, hbn⟩
            have HBn := Lib.hid (HBc.out.trans (hbn.mono HBc.out.size))
            have hSn := (hbn.cell (p := ⟨gx, 1, none⟩) hgc).trans hS
            have hgn := Nat.lt_of_lt_of_le hgc hbn.size
            refine hK.out _ _ hSn ?_
            clear hK K hS HBc hgc
            try simp only [List.getElem_toArray, List.getElem_cons_succ, List.getElem_cons_zero, Act.put, List.setIfInBounds_toArray, List.set_cons_zero, List.set_cons_succ]
            have hS := hSn
            have HBc := HBn
            have hgc := hgn
            clear hSn HBn hgn hbn
            obtain ⟨wc, rfl⟩ : ∃ x : World, x = wn := ⟨_, rfl⟩
            refine HT.take (i := 8) (oi := _) (v := ?_) rfl (by kernel_rfl) (by kernel_rfl) (by decide) (fun _ _ _ h => h) (Or.inl ⟨by rfl, ?_⟩) hS ?_
            rotate_left
            · intro wz
              go_simp
              try with_reducible rfl
            simp only [List.getElem_toArray, List.getElem_cons_succ, List.getElem_cons_zero, Act.put, List.setIfInBounds_toArray, List.set_cons_zero, List.set_cons_succ]
            refine HT.done (by kernel_rfl) ?_
            clear hS
            simp only [List.drop_succ_cons, List.drop_zero]
            by_cases hg : Nat.gcd (decV s.data.toList) (decV t.data.toList) = 1
            · have hkc : cmpN (Nat.gcd (decV s.data.toList) (decV t.data.toList)) 1 = 0 := cmpN_eq hg
              have HVV : Hid (chkQ s t = 0) := by show _ = _; rw [HV.out, if_pos hg]
              rw [hkc]
              clear hkc hg
              go_wp2_with fail
              go_ret
              exact ⟨by rw [HVV.out]; rfl, HBW.out.trans (HBc.out.mono HBW.out.size)⟩
            · have hkc : (cmpN (Nat.gcd (decV s.data.toList) (decV t.data.toList)) 1 != 0) = true := by
                have hgp := Nat.gcd_pos_of_pos_right (decV s.data.toList) HPS.out
                unfold cmpN
                rw [if_neg (by omega), if_neg hg]; rfl
              have HVV : Hid (chkQ s t = 3) := by show _ = _; rw [HV.out, if_neg hg]
              obtain ⟨kc, hkk⟩ : ∃ kc, cmpN (Nat.gcd (decV s.data.toList) (decV t.data.toList)) 1 = kc := ⟨_, rfl⟩
              rw [hkk] at hkc ⊢
              clear hkk hg
              go_wp2_with fail
              go_ret
              exact ⟨by rw [HVV.out]; rfl, HBW.out.trans (HBc.out.mono HBW.out.size)⟩
          · intro K hK
            go_simp
            obtain ⟨wn, ga, hwn, hga, HA0, hbn0, _⟩ := rcell_new wc 3 #[.int .i64 1]
            have hbn := hbn0.out
            have HA : Hid (LimAt wn wn.heap.size (some ⟨ga, 0, none⟩) 1 1 1) := by
              have hb8 : BlkN .i64 3 wn ga [1] := HA0.out
              exact ⟨by omega, by simp [maxLen], [1], ⟨DigN.cons (by omega) (DigN.nil _), by simp⟩, by simp [valB], hb8.row hb8.lt⟩
            rw [← hwn, ← hga]
            clear hwn hga HA0 hbn0
            replace H1 := Lib.hid (H1.out.to hbn (Nat.le_refl _) hbn.size); replace H2 := Lib.hid (H2.out.to hbn (Nat.le_refl _) hbn.size)
            have HBn := Lib.hid (HBc.out.trans (hbn.mono HBc.out.size))
            have hSn := (hbn.cell (p := ⟨gx, 1, none⟩) hgc).trans hS
            have hgn := Nat.lt_of_lt_of_le hgc hbn.size
            refine hK.out _ _ hSn ?_
            clear hK K hS HBc hgc
            try simp only [List.getElem_toArray, List.getElem_cons_succ, List.getElem_cons_zero, Act.put, List.setIfInBounds_toArray, List.set_cons_zero, List.set_cons_succ]
            have hS := hSn
            have HBc := HBn
            have hgc := hgn
            clear hSn HBn hgn hbn
            obtain ⟨wc, rfl⟩ : ∃ x : World, x = wn := ⟨_, rfl⟩
            refine HT.one (i := 5) (o := _) rfl (by kernel_rfl) (by decide) (by rfl) ?_
            intro K hK
            go_simp
            refine (RCOMMON_any A1 A2 n1 c1 _ n2 c2 _ (by omega) (by omega) _ wc.heap.size (Nat.le_refl _) H1 H2).mono ?_
            rintro e wn ⟨A3, n3, c3, rfl, h3, k3, hbn⟩
            have H3 := Lib.hid h3
            clear h3 H1 H2
            replace HA := Lib.hid (HA.out.to hbn (Nat.le_refl _) hbn.size)
            have HBn := Lib.hid (HBc.out.trans (hbn.mono HBc.out.size))
            have hSn := (hbn.cell (p := ⟨gx, 1, none⟩) hgc).trans hS
            have hgn := Nat.lt_of_lt_of_le hgc hbn.size
            refine hK.out _ _ hSn ?_
            clear hK K hS HBc hgc
            try simp only [List.getElem_toArray, List.getElem_cons_succ, List.getElem_cons_zero, Act.put, List.setIfInBounds_toArray, List.set_cons_zero, List.set_cons_succ]
            have hS := hSn
            have HBc := HBn
            have hgc := hgn
            clear hSn HBn hgn hbn
            obtain ⟨wc, rfl⟩ : ∃ x : World, x = wn := ⟨_, rfl⟩
            refine HT.one (i := 7) (o := _) rfl (by kernel_rfl) (by decide) (by rfl) ?_
            intro K hK
            go_simp
            refine (RCMP_any A3 _ n3 c3 _ 1 1 1 _ wc.heap.size H3 HA).mono ?_
            rintro e wn ⟨rfl, hbn⟩
            have HBn := Lib.hid (HBc.out.trans (hbn.mono HBc.out.size))
            have hSn := (hbn.cell (p := ⟨gx, 1, none⟩) hgc).trans hS
            have hgn := Nat.lt_of_lt_of_le hgc hbn.size
            refine hK.out _ _ hSn ?_
            clear hK K hS HBc hgc
            try simp only [List.getElem_toArray, List.getElem_cons_succ, List.getElem_cons_zero, Act.put, List.setIfInBounds_toArray, List.set_cons_zero, List.set_cons_succ]
            have hS := hSn
            have HBc := HBn
            have hgc := hgn
            clear hSn HBn hgn hbn
            obtain ⟨wc, rfl⟩ : ∃ x : World, x = wn := ⟨_, rfl⟩
            refine HT.take (i := 8) (oi := _) (v := ?_) rfl (by kernel_rfl) (by kernel_rfl) (by decide) (fun _ _ _ h => h) (Or.inl ⟨by rfl, ?_⟩) hS ?_
            rotate_left
            · intro wz
              go_simp
              try with_reducible rfl
            simp only [List.getElem_toArray, List.getElem_cons_succ, List.getElem_cons_zero, Act.put, List.setIfInBounds_toArray, List.set_cons_zero, List.set_cons_succ]
            refine HT.done (by kernel_rfl) ?_
            clear hS
            simp only [List.drop_succ_cons, List.drop_zero]
            by_cases hg : Nat.gcd (decV s.data.toList) (decV t.data.toList) = 1
            · have hkc : cmpN (Nat.gcd (decV s.data.toList) (decV t.data.toList)) 1 = 0 := cmpN_eq hg
              have HVV : Hid (chkQ s t = 0) := by show _ = _; rw [HV.out, if_pos hg]
              rw [hkc]
              clear hkc hg
              go_wp2_with fail
              go_ret
              exact ⟨by rw [HVV.out]; rfl, HBW.out.trans (HBc.out.mono HBW.out.size)⟩
            · have hkc : (cmpN (Nat.gcd (decV s.data.toList) (decV t.data.toList)) 1 != 0) = true := by
                have hgp := Nat.gcd_pos_of_pos_right (decV s.data.toList) HPS.out
                unfold cmpN
                rw [if_neg (by omega), if_neg hg]; rfl
              have HVV : Hid (chkQ s t = 3) := by show _ = _; rw [HV.out, if_neg hg]
              obtain ⟨kc, hkk⟩ : ∃ kc, cmpN (Nat.gcd (decV s.data.toList) (decV t.data.toList)) 1 = kc := ⟨_, rfl⟩
              rw [hkk] at hkc ⊢
              clear hkk hg
              go_wp2_with fail
              go_ret
              exact ⟨by rw [HVV.out]; rfl, HBW.out.trans (HBc.out.mono HBW.out.size)⟩
        · intro K hK
          go_simp
          obtain ⟨wn, ga, hwn, hga, HA0, hbn0, _⟩ := rcell_new wc 3 #[.int .i64 1]
          have hbn := hbn0.out
          have HA : Hid (LimAt wn wn.heap.size (some ⟨ga, 0, none⟩) 1 1 1) := by
            have hb8 : BlkN .i64 3 wn ga [1] := HA0.out
            exact ⟨by omega, by simp [maxLen], [1], ⟨DigN.cons (by omega) (DigN.nil _), by simp⟩, by simp [valB], hb8.row hb8.lt⟩
          rw [← hwn, ← hga]
          clear hwn hga HA0 hbn0
          replace H1 := Lib.hid (H1.out.to hbn (Nat.le_refl _) hbn.size)
          have HBn := Lib.hid (HBc.out.trans (hbn.mono HBc.out.size))
          have hSn := (hbn.cell (p := ⟨gx, 1, none⟩) hgc).trans hS
          have hgn := Nat.lt_of_lt_of_le hgc hbn.size
          refine hK.out _ _ hSn ?_
          clear hK K hS HBc hgc
          try simp only [List.getElem_toArray, List.getElem_cons_succ, List.getElem_cons_zero, Act.put, List.setIfInBounds_toArray, List.set_cons_zero, List.set_cons_succ]
          have hS := hSn
          have HBc := HBn
          have hgc := hgn
          clear hSn HBn hgn hbn
          obtain ⟨wc, rfl⟩ : ∃ x : World, x = wn := ⟨_, rfl⟩
          refine HT.one (i := 4) (o := _) rfl (by kernel_rfl) (by decide) (by rfl) ?_
          intro K hK
          go_simp
          refine (RLIMBS_any t HTA (by omega) _).mono ?_
          rintro e wn ⟨A2, n2, c2, rfl, h2, k2, hbn⟩
          have H2 := Lib.hid h2
          clear h2
          replace HA := Lib.hid (HA.out.to hbn (Nat.le_refl _) hbn.size)
          replace H1 := Lib.hid (H1.out.to hbn (Nat.le_refl _) hbn.size)
          have HBn := Lib.hid (HBc.out.trans (hbn.mono HBc.out.size))
          have hSn := (hbn.cell (p := ⟨gx, 1, none⟩) hgc).trans hS
          have hgn := Nat.lt_of_lt_of_le hgc hbn.size
          refine hK.out _ _ hSn ?_
          clear hK K hS HBc hgc
          try simp only [List.getElem_toArray, List.getElem_cons_succ, List.getElem_cons_zero, Act.put, List.setIfInBounds_toArray, List.set_cons_zero, List.set_cons_succ]
          have hS := hSn
          have HBc := HBn
          have hgc := hgn
          clear hSn HBn hgn hbn
          obtain ⟨wc, rfl⟩ : ∃ x : World, x = wn := ⟨_, rfl⟩
          refine HT.one (i := 5) (o := _) rfl (by kernel_rfl) (by decide) (by rfl) ?_
          intro K hK
          go_simp
          refine (RCOMMON_any A1 A2 n1 c1 _ n2 c2 _ (by omega) (by omega) _ wc.heap.size (Nat.le_refl _) H1 H2).mono ?_
          rintro e wn ⟨A3, n3, c3, rfl, h3, k3, hbn⟩
          have H3 := Lib.hid h3
          clear h3 H1 H2
          replace HA := Lib.hid (HA.out.to hbn (Nat.le_refl _) hbn.size)
          have HBn := Lib.hid (HBc.out.trans (hbn.mono HBc.out.size))
          have hSn := (hbn.cell (p := ⟨gx, 1, none⟩) hgc).trans hS
          have hgn := Nat.lt_of_lt_of_le hgc hbn.size
          refine hK.out _ _ hSn ?_
          clear hK K hS HBc hgc
          try simp only [List.getElem_toArray, List.getElem_cons_succ, List.getElem_cons_zero, Act.put, List.setIfInBounds_toArray, List.set_cons_zero, List.set_cons_succ]
          have hS := hSn
          have HBc := HBn
          have hgc := hgn
          clear hSn HBn hgn hbn
          obtain ⟨wc, rfl⟩ : ∃ x : World, x = wn := ⟨_, rfl⟩
          refine HT.one (i := 7) (o := _) rfl (by kernel_rfl) (by decide) (by rfl) ?_
          intro K hK
          go_simp
          refine (RCMP_any A3 _ n3 c3 _ 1 1 1 _ wc.heap.size H3 HA).mono ?_
          rintro e wn ⟨rfl, hbn⟩
          have HBn := Lib.hid (HBc.out.trans (hbn.mono HBc.out.size))
          have hSn := (hbn.cell (p := ⟨gx, 1, none⟩) hgc).trans hS
          have hgn := Nat.lt_of_lt_of_le hgc hbn.size
          refine hK.out _ _ hSn ?_
          clear hK K hS HBc hgc
          try simp only [List.getElem_toArray, List.getElem_cons_succ, List.getElem_cons_zero, Act.put, List.setIfInBounds_toArray, List.set_cons_zero, List.set_cons_succ]
          have hS := hSn
          have HBc := HBn
          have hgc := hgn
          clear hSn HBn hgn hbn
          obtain ⟨wc, rfl⟩ : ∃ x : World, x = wn := ⟨_, rfl⟩
          refine HT.take (i := 8) (oi := _) (v := ?_) rfl (by kernel_rfl) (by kernel_rfl) (by decide) (fun _ _ _ h => h) (Or.inl ⟨by rfl, ?_⟩) hS ?_
          rotate_left
          · intro wz
            go_simp
            try with_reducible rfl
          simp only [List.getElem_toArray, List.getElem_cons_succ, List.getElem_cons_zero, Act.put, List.setIfInBounds_toArray, List.set_cons_zero, List.set_cons_succ]
          refine HT.done (by kernel_rfl) ?_
          clear hS
          simp only [List.drop_succ_cons, List.drop_zero]
          by_cases hg : Nat.gcd (decV s.data.toList) (decV t.data.toList) = 1
          · have hkc : cmpN (Nat.gcd (decV s.data.toList) (decV t.data.toList)) 1 = 0 := cmpN_eq hg
            have HVV : Hid (chkQ s t = 0) := by show _ = _; rw [HV.out, if_pos hg]
            rw [hkc]
            clear hkc hg
            go_wp2_with fail
            go_ret
            exact ⟨by rw [HVV.out]; rfl, HBW.out.trans (HBc.out.mono HBW.out.size)⟩
          · have hkc : (cmpN (Nat.gcd (decV s.data.toList) (decV t.data.toList)) 1 != 0) = true := by
              have hgp := Nat.gcd_pos_of_pos_right (decV s.data.toList) HPS.out
              unfold cmpN
              rw [if_neg (by omega), if_neg hg]; rfl
            have HVV : Hid (chkQ s t = 3) := by show _ = _; rw [HV.out, if_neg hg]
            obtain ⟨kc, hkk⟩ : ∃ kc, cmpN (Nat.gcd (decV s.data.toList) (decV t.data.toList)) 1 = kc := ⟨_, rfl⟩
            rw [hkk] at hkc ⊢
            clear hkk hg
            go_wp2_with fail
            go_ret
            exact ⟨by rw [HVV.out]; rfl, HBW.out.trans (HBc.out.mono HBW.out.size)⟩
      · intro K hK
        go_simp
        obtain ⟨wn, ga, hwn, hga, HA0, hbn0, _⟩ := rcell_new wc 3 #[.int .i64 1]
        have hbn := hbn0.out
        have HA : Hid (LimAt wn wn.heap.size (some ⟨ga, 0, none⟩) 1 1 1) := by
          have hb8 : BlkN .i64 3 wn ga [1] := HA0.out
          exact ⟨by omega, by simp [maxLen], [1], ⟨DigN.cons (by omega) (DigN.nil _), by simp⟩, by simp [valB], hb8.row hb8.lt⟩
        rw [← hwn, ← hga]
        clear hwn hga HA0 hbn0
        skip
        have HBn := Lib.hid (HBc.out.trans (hbn.mono HBc.out.size))
        have hSn := (hbn.cell (p := ⟨gx, 1, none⟩) hgc).trans hS
        have hgn := Nat.lt_of_lt_of_le hgc hbn.size
        refine hK.out _ _ hSn ?_
        clear hK K hS HBc hgc
        try simp only [List.getElem_toArray, List.getElem_cons_succ, List.getElem_cons_zero, Act.put, List.setIfInBounds_toArray, List.set_cons_zero, List.set_cons_succ]
        have hS := hSn
        have HBc := HBn
        have hgc := hgn
        clear hSn HBn hgn hbn
        obtain ⟨wc, rfl⟩ : ∃ x : World, x = wn := ⟨_, rfl⟩
        refine HT.one (i := 1) (o := _) rfl (by kernel_rfl) (by decide) (by rfl) ?_
        intro K hK
        go_simp
        refine (RLIMBS_any s HVA (by omega) _).mono ?_
        rintro e wn ⟨A1, n1, c1, rfl, h1, k1, hbn⟩
        have H1 := Lib.hid h1
        clear h1
        replace HA := Lib.hid (HA.out.to hbn (Nat.le_refl _) hbn.size)
        have HBn := Lib.hid (HBc.out.trans (hbn.mono HBc.out.size))
        have hSn := (hbn.cell (p := ⟨gx, 1, none⟩) hgc).trans hS
        have hgn := Nat.lt_of_lt_of_le hgc hbn.size
        refine hK.out _ _ hSn ?_
        clear hK K hS HBc hgc
        try simp only [List.getElem_toArray, List.getElem_cons_succ, List.getElem_cons_zero, Act.put, List.setIfInBounds_toArray, List.set_cons_zero, List.set_cons_succ]
        have hS := hSn
        have HBc := HBn
        have hgc := hgn
        clear hSn HBn hgn hbn
        obtain ⟨wc, rfl⟩ : ∃ x : World, x = wn := ⟨_, rfl⟩
        refine HT.one (i := 4) (o := _) rfl (by kernel_rfl) (by decide) (by rfl) ?_
        intro K hK
        go_simp
        refine (RLIMBS_any t HTA (by omega) _).mono ?_
        rintro e wn ⟨A2, n2, c2, rfl, h2, k2, hbn⟩
        have H2 := Lib.hid h2
        clear h2
        replace HA := Lib.hid (HA.out.to hbn (Nat.le_refl _) hbn.size)
        replace H1 := Lib.hid (H1.out.to hbn (Nat.le_refl _) hbn.size)
        have HBn := Lib.hid (HBc.out.trans (hbn.mono HBc.out.size))
        have hSn := (hbn.cell (p := ⟨gx, 1, none⟩) hgc).trans hS
        have hgn := Nat.lt_of_lt_of_le hgc hbn.size
        refine hK.out _ _ hSn ?_
        clear hK K hS HBc hgc
        try simp only [List.getElem_toArray, List.getElem_cons_succ, List.getElem_cons_zero, Act.put, List.setIfInBounds_toArray, List.set_cons_zero, List.set_cons_succ]
        have hS := hSn
        have HBc := HBn
        have hgc := hgn
        clear hSn HBn hgn hbn
        obtain ⟨wc, rfl⟩ : ∃ x : World, x = wn := ⟨_, rfl⟩
        refine HT.one (i := 5) (o := _) rfl (by kernel_rfl) (by decide) (by rfl) ?_
        intro K hK
        go_simp
        refine (RCOMMON_any A1 A2 n1 c1 _ n2 c2 _ (by omega) (by omega) _ wc.heap.size (Nat.le_refl _) H1 H2).mono ?_
        rintro e wn ⟨A3, n3, c3, rfl, h3, k3, hbn⟩
        have H3 := Lib.hid h3
        clear h3 H1 H2
        replace HA := Lib.hid (HA.out.to hbn (Nat.le_refl _) hbn.size)
        have HBn := Lib.hid (HBc.out.trans (hbn.mono HBc.out.size))
        have hSn := (hbn.cell (p := ⟨gx, 1, none⟩) hgc).trans hS
        have hgn := Nat.lt_of_lt_of_le hgc hbn.size
        refine hK.out _ _ hSn ?_
        clear hK K hS HBc hgc
        try simp only [List.getElem_toArray, List.getElem_cons_succ, List.getElem_cons_zero, Act.put, List.setIfInBounds_toArray, List.set_cons_zero, List.set_cons_succ]
        have hS := hSn
        have HBc := HBn
        have hgc := hgn
        clear hSn HBn hgn hbn
        obtain ⟨wc, rfl⟩ : ∃ x : World, x = wn := ⟨_, rfl⟩
        refine HT.one (i := 7) (o := _) rfl (by kernel_rfl) (by decide) (by rfl) ?_
        intro K hK
        go_simp
        refine (RCMP_any A3 _ n3 c3 _ 1 1 1 _ wc.heap.size H3 HA).mono ?_
        rintro e wn ⟨rfl, hbn⟩
        have HBn := Lib.hid (HBc.out.trans (hbn.mono HBc.out.size))
        have hSn := (hbn.cell (p := ⟨gx, 1, none⟩) hgc).trans hS
        have hgn := Nat.lt_of_lt_of_le hgc hbn.size
        refine hK.out _ _ hSn ?_
        clear hK K hS HBc hgc
        try simp only [List.getElem_toArray, List.getElem_cons_succ, List.getElem_cons_zero, Act.put, List.setIfInBounds_toArray, List.set_cons_zero, List.set_cons_succ]
        have hS := hSn
        have HBc := HBn
        have hgc := hgn
        clear hSn HBn hgn hbn
        obtain ⟨wc, rfl⟩ : ∃ x : World, x = wn := ⟨_, rfl⟩
        refine HT.take (i := 8) (oi := _) (v := ?_) rfl (by kernel_rfl) (by kernel_rfl) (by decide) (fun _ _ _ h => h) (Or.inl ⟨by rfl, ?_⟩) hS ?_
        rotate_left
        · intro wz
          go_simp
          try with_reducible rfl
        simp only [List.getElem_toArray, List.getElem_cons_succ, List.getElem_cons_zero, Act.put, List.setIfInBounds_toArray, List.set_cons_zero, List.set_cons_succ]
        refine HT.done (by kernel_rfl) ?_
        clear hS
        simp only [List.drop_succ_cons, List.drop_zero]
        by_cases hg : Nat.gcd (decV s.data.toList) (decV t.data.toList) = 1
        · have hkc : cmpN (Nat.gcd (decV s.data.toList) (decV t.data.toList)) 1 = 0 := cmpN_eq hg
          have HVV : Hid (chkQ s t = 0) := by show _ = _; rw [HV.out, if_pos hg]
          rw [hkc]
          clear hkc hg
          go_wp2_with fail
          go_ret
          exact ⟨by rw [HVV.out]; rfl, HBW.out.trans (HBc.out.mono HBW.out.size)⟩
        · have hkc : (cmpN (Nat.gcd (decV s.data.toList) (decV t.data.toList)) 1 != 0) = true := by
            have hgp := Nat.gcd_pos_of_pos_right (decV s.data.toList) HPS.out
            unfold cmpN
            rw [if_neg (by omega), if_neg hg]; rfl
          have HVV : Hid (chkQ s t = 3) := by show _ = _; rw [HV.out, if_neg hg]
          obtain ⟨kc, hkk⟩ : ∃ kc, cmpN (Nat.gcd (decV s.data.toList) (decV t.data.toList)) 1 = kc := ⟨_, rfl⟩
          rw [hkk] at hkc ⊢
          clear hkk hg
          go_wp2_with fail
          go_ret
          exact ⟨by rw [HVV.out]; rfl, HBW.out.trans (HBc.out.mono HBW.out.size)⟩
  | true =>
    have hcons : s.data.toList = 45 :: bodyT s := prefix_true hb
    have hsl : s.size = (bodyT s).length + 1 := by rw [← HLN.out, hcons]; rfl
    have hpos : 0 < s.size := by omega
    have hby := at_getD s (i := 0) hpos
    have hx45 : s[0].toNat = 45 := by rw [hby, hcons]; rfl
    have hnot : ∀ l, ¬ GoodD (45 :: l) := fun l h => by have := h.1 45 (by simp); revert this; decide
    have HGS : Hid (goodD s.data.toList = false) := by show _ = _; rw [hcons]; exact goodD_false (hnot _)
    have hv := hs
    clear hby
    by_cases hl : 1 < s.size
    · by_cases hz : bodyT s = [48]
      · have HV : Hid (chkQ s t = 3) := by
          show _ = _; unfold chkQ
          rw [if_pos]
          unfold formQ
          rw [hb, hz]; simp
        have hm : s.toList = [45, 48] := by rw [ByteArray.toList_eq, hcons, hz]
        have hm9 : (s.toList == [45, 48]) = true := by rw [hm]; rfl
        have hl9 : (1 : Int) < (s.size : Int) := by omega
        have HG1 := HGS
        clear hz hcons hm hb hg1
        go_enter Tryz.func19, Tryz.ntmps19
        go_upto_region 1 with (fail)
        rw [← hW, ← hgx]
        clear hW hgx
        go_wp2_with (first
          | (go_at_call 53; (with_reducible refine (RNUMB_any s hv _).mono ?_); rintro e w1 ⟨rfl, rfl⟩; rw [HG1.out])
          | (go_at_call 53; (with_reducible refine (RNUMB_any t ht _).mono ?_); rintro e w1 ⟨rfl, rfl⟩; rw [HG2.out]))
        go_ret
        exact ⟨by rw [HV.out]; rfl, HBW.out⟩
      · have HF : Hid (formQ s t = (g1 && g2 && !e1)) := by show _ = _; unfold formQ; rw [hb, hg1, hg2, he1, beq_eq_false_iff_ne.2 hz]; simp
        have hm9 : (s.toList == [45, 48]) = false := by
          rw [ByteArray.toList_eq, hcons]
          simpa using hz
        have hl9 : (1 : Int) < (s.size : Int) := by omega
        obtain ⟨u, hu⟩ : ∃ u : ByteArray, u = s.extract 1 s.size := ⟨_, rfl⟩
        have HVD : Hid (u.data.toList = bodyT s) := by
          show _ = _
          rw [hu, Lib.extract_to_end, hcons]
          rfl
        have HG1 : Hid (goodD u.data.toList = g1) := by show _ = _; rw [HVD.out]; exact hg1
        have hv : u.size ≤ maxLen := by rw [← len_data, HVD.out]; omega
        clear hz hcons hb hg1 hg2 he1 hsl
        go_enter Tryz.func19, Tryz.ntmps19
        go_upto_region 1 with (fail)
        rw [← hW, ← hgx]
        clear hW hgx
        go_upto_region 4 with (fail)
        rw [← hu]
        clear hu
        cases g1 with
        | false =>
          have HV : Hid (chkQ s t = 3) := by show _ = _; unfold chkQ; rw [if_pos (by rw [HF.out]; simp)]
          go_wp2_with (first
            | (go_at_call 53; (with_reducible refine (RNUMB_any u hv _).mono ?_); rintro e w1 ⟨rfl, rfl⟩; rw [HG1.out])
            | (go_at_call 53; (with_reducible refine (RNUMB_any t ht _).mono ?_); rintro e w1 ⟨rfl, rfl⟩; rw [HG2.out]))
          go_ret
          exact ⟨by rw [HV.out]; rfl, HBW.out⟩
        | true =>
        cases g2 with
        | false =>
          have HV : Hid (chkQ s t = 3) := by show _ = _; unfold chkQ; rw [if_pos (by rw [HF.out]; simp)]
          go_wp2_with (first
            | (go_at_call 53; (with_reducible refine (RNUMB_any u hv _).mono ?_); rintro e w1 ⟨rfl, rfl⟩; rw [HG1.out])
            | (go_at_call 53; (with_reducible refine (RNUMB_any t ht _).mono ?_); rintro e w1 ⟨rfl, rfl⟩; rw [HG2.out]))
          go_ret
          exact ⟨by rw [HV.out]; rfl, HBW.out⟩
        | true =>
        cases e1 with
        | true =>
          have HV : Hid (chkQ s t = 3) := by show _ = _; unfold chkQ; rw [if_pos (by rw [HF.out]; simp)]
          go_wp2_with (first
            | (go_at_call 53; (with_reducible refine (RNUMB_any u hv _).mono ?_); rintro e w1 ⟨rfl, rfl⟩; rw [HG1.out])
            | (go_at_call 53; (with_reducible refine (RNUMB_any t ht _).mono ?_); rintro e w1 ⟨rfl, rfl⟩; rw [HG2.out]))
          go_ret
          exact ⟨by rw [HV.out]; rfl, HBW.out⟩
        | false =>
        by_cases hA : 2000 < u.size
        · have HV : Hid (chkQ s t = 2) := by show _ = _; unfold chkQ; rw [if_neg (by rw [HF.out]; simp), if_pos (.inl (by rw [← HVD.out, len_data]; exact hA))]
          go_wp2_with (first
            | (go_at_call 53; (with_reducible refine (RNUMB_any u hv _).mono ?_); rintro e w1 ⟨rfl, rfl⟩; rw [HG1.out])
            | (go_at_call 53; (with_reducible refine (RNUMB_any t ht _).mono ?_); rintro e w1 ⟨rfl, rfl⟩; rw [HG2.out]))
          go_ret
          exact ⟨by rw [HV.out]; rfl, HBW.out⟩
        by_cases hC : 2000 < t.size
        · have HV : Hid (chkQ s t = 2) := by show _ = _; unfold chkQ; rw [if_neg (by rw [HF.out]; simp), if_pos (.inr hC)]
          go_wp2_with (first
            | (go_at_call 53; (with_reducible refine (RNUMB_any u hv _).mono ?_); rintro e w1 ⟨rfl, rfl⟩; rw [HG1.out])
            | (go_at_call 53; (with_reducible refine (RNUMB_any t ht _).mono ?_); rintro e w1 ⟨rfl, rfl⟩; rw [HG2.out]))
          go_ret
          exact ⟨by rw [HV.out]; rfl, HBW.out⟩
        have HV : Hid (chkQ s t = if Nat.gcd (decV u.data.toList) (decV t.data.toList) = 1 then 0 else 3) := by
          show _ = _
          unfold chkQ
          rw [if_neg (by rw [HF.out]; simp), if_neg (by rw [← HVD.out, len_data]; omega), HVD.out]
        have HVA : Hid (AllDig u.data.toList) := (goodD_iff.1 HG1.out).1
        have HTA : Hid (AllDig t.data.toList) := (goodD_iff.1 HG2.out).1
        have HPS : Hid (0 < decV t.data.toList) := good_pos (goodD_iff.1 HG2.out) (by rw [← beq_eq_false_iff_ne]; exact HE1.out)
        go_upto_region 8 with (first
          | (go_at_call 53; (with_reducible refine (RNUMB_any u hv _).mono ?_); rintro e w1 ⟨rfl, rfl⟩; rw [HG1.out])
          | (go_at_call 53; (with_reducible refine (RNUMB_any t ht _).mono ?_); rintro e w1 ⟨rfl, rfl⟩; rw [HG2.out]))
        refine wp_region_text 9 (fun x => x.cell? ⟨gx, 1, none⟩ = some (.string t)) (by kernel_rfl) (by kernel_rfl) ?_
        obtain ⟨wc, hwc⟩ : ∃ x : World, x = W.drew := ⟨_, rfl⟩
        have HBc : Hid (Below W.heap.size W wc) := by show Below _ _ _; rw [hwc]; exact (Below.refl _ _).drew
        have hS : wc.cell? ⟨gx, 1, none⟩ = some (.string t) := by rw [hwc]; exact hc1
        have hgc : gx < wc.heap.size := by rw [hwc]; exact hgw
        rw [← hwc]
        clear hwc hc0 hc1
        refine HT.take (i := 0) (oi := _) (v := ?_) rfl (by kernel_rfl) (by kernel_rfl) (by decide) (fun _ _ _ h => h) (Or.inl ⟨by rfl, ?_⟩) hS ?_
        rotate_left
        · intro wz
          go_simp
          try with_reducible rfl
        simp only [List.getElem_toArray, List.getElem_cons_succ, List.getElem_cons_zero, Act.put, List.setIfInBounds_toArray, List.set_cons_zero, List.set_cons_succ]
        refine HT.take (i := 2) (oi := _) (v := ?_) rfl (by kernel_rfl) (by kernel_rfl) (by decide) (fun _ _ _ h => h) (Or.inl ⟨by rfl, ?_⟩) hS ?_
        rotate_left
        · intro wz
          go_simp
          try with_reducible rfl
        simp only [List.getElem_toArray, List.getElem_cons_succ, List.getElem_cons_zero, Act.put, List.setIfInBounds_toArray, List.set_cons_zero, List.set_cons_succ]
        refine HT.load (i := 3) (oi := _) (v := ?_) rfl (by kernel_rfl) (by kernel_rfl) (by decide) (fun _ _ _ h => h) (by kernel_rfl) (Or.inl ⟨by rfl, ?_⟩) hS ?_
        rotate_left
        · intro wz hwz
          try dsimp only at hwz
          go_simp
          try with_reducible rfl
        simp only [List.getElem_toArray, List.getElem_cons_succ, List.getElem_cons_zero, Act.put, List.setIfInBounds_toArray, List.set_cons_zero, List.set_cons_succ]
        refine HT.two 1 6 (o := _) (o' := _) rfl rfl (by kernel_rfl) (by decide) (by decide) (by rfl) (by rfl) ?_ ?_
        · intro K hK
          go_simp
          refine (RLIMBS_any u HVA (by omega) _).mono ?_
          rintro e wn ⟨A1, n1, c1, rfl, h1, k1, hbn⟩
          have H1 := Lib.hid h1
          clear h1
          skip
          have HBn := Lib.hid (HBc.out.trans (hbn.mono HBc.out.size))
          have hSn := (hbn.cell (p := ⟨gx, 1, none⟩) hgc).trans hS
          have hgn := Nat.lt_of_lt_of_le hgc hbn.size
          refine hK.out _ _ hSn ?_
          clear hK K hS HBc hgc
          try simp only [List.getElem_toArray, List.getElem_cons_succ, List.getElem_cons_zero, Act.put, List.setIfInBounds_toArray, List.set_cons_zero, List.set_cons_succ]
          have hS := hSn
          have HBc := HBn
          have hgc := hgn
          clear hSn HBn hgn hbn
          obtain ⟨wc, rfl⟩ : ∃ x : World, x = wn := ⟨_, rfl⟩
          refine HT.two 4 6 (o := _) (o' := _) rfl rfl (by kernel_rfl) (by decide) (by decide) (by rfl) (by rfl) ?_ ?_
          · intro K hK
            go_simp
            refine (RLIMBS_any t HTA (by omega) _).mono ?_
            rintro e wn ⟨A2, n2, c2, rfl, h2, k2, hbn⟩
            have H2 := Lib.hid h2
            clear h2
            skip
            replace H1 := Lib.hid (H1.out.to hbn (Nat.le_refl _) hbn.size)
            have HBn := Lib.hid (HBc.out.trans (hbn.mono HBc.out.size))
            have hSn := (hbn.cell (p := ⟨gx, 1, none⟩) hgc).trans hS
            have hgn := Nat.lt_of_lt_of_le hgc hbn.size
            refine hK.out _ _ hSn ?_
            clear hK K hS HBc hgc
            try simp only [List.getElem_toArray, List.getElem_cons_succ, List.getElem_cons_zero, Act.put, List.setIfInBounds_toArray, List.set_cons_zero, List.set_cons_succ]
            have hS := hSn
            have HBc := HBn
            have hgc := hgn
            clear hSn HBn hgn hbn
            obtain ⟨wc, rfl⟩ : ∃ x : World, x = wn := ⟨_, rfl⟩
            refine HT.two 5 6 (o := _) (o' := _) rfl rfl (by kernel_rfl) (by decide) (by decide) (by rfl) (by rfl) ?_ ?_
            · intro K hK
              go_simp
              refine (RCOMMON_any A1 A2 n1 c1 _ n2 c2 _ (by omega) (by omega) _ wc.heap.size (Nat.le_refl _) H1 H2).mono ?_
              rintro e wn ⟨A3, n3, c3, rfl, h3, k3, hbn⟩
              have H3 := Lib.hid h3
              clear h3 H1 H2
              skip
              have HBn := Lib.hid (HBc.out.trans (hbn.mono HBc.out.size))
              have hSn := (hbn.cell (p := ⟨gx, 1, none⟩) hgc).trans hS
              have hgn := Nat.lt_of_lt_of_le hgc hbn.size
              refine hK.out _ _ hSn ?_
              clear hK K hS HBc hgc
              try simp only [List.getElem_toArray, List.getElem_cons_succ, List.getElem_cons_zero, Act.put, List.setIfInBounds_toArray, List.set_cons_zero, List.set_cons_succ]
              have hS := hSn
              have HBc := HBn
              have hgc := hgn
              clear hSn HBn hgn hbn
              obtain ⟨wc, rfl⟩ : ∃ x : World, x = wn := ⟨_, rfl⟩
              refine HT.one (i := 6) (o := _) rfl (by kernel_rfl) (by decide) (by rfl) ?_
              intro K hK
              go_simp
              obtain ⟨wn, ga, hwn, hga, HA0, hbn0, _⟩ := rcell_new wc 3 #[.int .i64 1]
              have hbn := hbn0.out
              have HA : Hid (LimAt wn wn.heap.size (some ⟨ga, 0, none⟩) 1 1 1) := by
                have hb8 : BlkN .i64 3 wn ga [1] := HA0.out
                exact ⟨by omega, by simp [maxLen], [1], ⟨DigN.cons (by omega) (DigN.nil _), by simp⟩, by simp [valB], hb8.row hb8.lt⟩
              rw [← hwn, ← hga]
              clear hwn hga HA0 hbn0
              replace H3 := Lib.hid (H3.out.to hbn (Nat.le_refl _) hbn.size)
              have HBn := Lib.hid (HBc.out.trans (hbn.mono HBc.out.size))
              have hSn := (hbn.cell (p := ⟨gx, 1, none⟩) hgc).trans hS
              have hgn := Nat.lt_of_lt_of_le hgc hbn.size
              refine hK.out _ _ hSn ?_
              clear hK K hS HBc hgc
              try simp only [List.getElem_toArray, List.getElem_cons_succ, List.getElem_cons_zero, Act.put, List.setIfInBounds_toArray, List.set_cons_zero, List.set_cons_succ]
              have hS := hSn
              have HBc := HBn
              have hgc := hgn
              clear hSn HBn hgn hbn
              obtain ⟨wc, rfl⟩ : ∃ x : World, x = wn := ⟨_, rfl⟩
              refine HT.one (i := 7) (o := _) rfl (by kernel_rfl) (by decide) (by rfl) ?_
              intro K hK
              go_simp
              refine (RCMP_any A3 _ n3 c3 _ 1 1 1 _ wc.heap.size H3 HA).mono ?_
              rintro e wn ⟨rfl, hbn⟩
              have HBn := Lib.hid (HBc.out.trans (hbn.mono HBc.out.size))
              have hSn := (hbn.cell (p := ⟨gx, 1, none⟩) hgc).trans hS
              have hgn := Nat.lt_of_lt_of_le hgc hbn.size
              refine hK.out _ _ hSn ?_
              clear hK K hS HBc hgc
              try simp only [List.getElem_toArray, List.getElem_cons_succ, List.getElem_cons_zero, Act.put, List.setIfInBounds_toArray, List.set_cons_zero, List.set_cons_succ]
              have hS := hSn
              have HBc := HBn
              have hgc := hgn
              clear hSn HBn hgn hbn
              obtain ⟨wc, rfl⟩ : ∃ x : World, x = wn := ⟨_, rfl⟩
              refine HT.take (i := 8) (oi := _) (v := ?_) rfl (by kernel_rfl) (by kernel_rfl) (by decide) (fun _ _ _ h => h) (Or.inl ⟨by rfl, ?_⟩) hS ?_
              rotate_left
              · intro wz
                go_simp
                try with_reducible rfl
              simp only [List.getElem_toArray, List.getElem_cons_succ, List.getElem_cons_zero, Act.put, List.setIfInBounds_toArray, List.set_cons_zero, List.set_cons_succ]
              refine HT.done (by kernel_rfl) ?_
              clear hS
              simp only [List.drop_succ_cons, List.drop_zero]
              by_cases hg : Nat.gcd (decV u.data.toList) (decV t.data.toList) = 1
              · have hkc : cmpN (Nat.gcd (decV u.data.toList) (decV t.data.toList)) 1 = 0 := cmpN_eq hg
                have HVV : Hid (chkQ s t = 0) := by show _ = _; rw [HV.out, if_pos hg]
                rw [hkc]
                clear hkc hg
                go_wp2_with fail
                go_ret
                exact ⟨by rw [HVV.out]; rfl, HBW.out.trans (HBc.out.mono HBW.out.size)⟩
              · have hkc : (cmpN (Nat.gcd (decV u.data.toList) (decV t.data.toList)) 1 != 0) = true := by
                  have hgp := Nat.gcd_pos_of_pos_right (decV u.data.toList) HPS.out
                  unfold cmpN
                  rw [if_neg (by omega), if_neg hg]; rfl
                have HVV : Hid (chkQ s t = 3) := by show _ = _; rw [HV.out, if_neg hg]
                obtain ⟨kc, hkk⟩ : ∃ kc, cmpN (Nat.gcd (decV u.data.toList) (decV t.data.toList)) 1 = kc := ⟨_, rfl⟩
                rw [hkk] at hkc ⊢
                clear hkk hg
                go_wp2_with fail
                go_ret
                exact ⟨by rw [HVV.out]; rfl, HBW.out.trans (HBc.out.mono HBW.out.size)⟩
            · intro K hK
              go_simp
              obtain ⟨wn, ga, hwn, hga, HA0, hbn0, _⟩ := rcell_new wc 3 #[.int .i64 1]
              have hbn := hbn0.out
              have HA : Hid (LimAt wn wn.heap.size (some ⟨ga, 0, none⟩) 1 1 1) := by
                have hb8 : BlkN .i64 3 wn ga [1] := HA0.out
                exact ⟨by omega, by simp [maxLen], [1], ⟨DigN.cons (by omega) (DigN.nil _), by simp⟩, by simp [valB], hb8.row hb8.lt⟩
              rw [← hwn, ← hga]
              clear hwn hga HA0 hbn0
              replace H1 := Lib.hid (H1.out.to hbn (Nat.le_refl _) hbn.size); replace H2 := Lib.hid (H2.out.to hbn (Nat.le_refl _) hbn.size)
              have HBn := Lib.hid (HBc.out.trans (hbn.mono HBc.out.size))
              have hSn := (hbn.cell (p := ⟨gx, 1, none⟩) hgc).trans hS
              have hgn := Nat.lt_of_lt_of_le hgc hbn.size
              refine hK.out _ _ hSn ?_
              clear hK K hS HBc hgc
              try simp only [List.getElem_toArray, List.getElem_cons_succ, List.getElem_cons_zero, Act.put, List.setIfInBounds_toArray, List.set_cons_zero, List.set_cons_succ]
              have hS := hSn
              have HBc := HBn
              have hgc := hgn
              clear hSn HBn hgn hbn
              obtain ⟨wc, rfl⟩ : ∃ x : World, x = wn := ⟨_, rfl⟩
              refine HT.one (i := 5) (o := _) rfl (by kernel_rfl) (by decide) (by rfl) ?_
              intro K hK
              go_simp
              refine (RCOMMON_any A1 A2 n1 c1 _ n2 c2 _ (by omega) (by omega) _ wc.heap.size (Nat.le_refl _) H1 H2).mono ?_
              rintro e wn ⟨A3, n3, c3, rfl, h3, k3, hbn⟩
              have H3 := Lib.hid h3
              clear h3 H1 H2
              replace HA := Lib.hid (HA.out.to hbn (Nat.le_refl _) hbn.size)
              have HBn := Lib.hid (HBc.out.trans (hbn.mono HBc.out.size))
              have hSn := (hbn.cell (p := ⟨gx, 1, none⟩) hgc).trans hS
              have hgn := Nat.lt_of_lt_of_le hgc hbn.size
              refine hK.out _ _ hSn ?_
              clear hK K hS HBc hgc
              try simp only [List.getElem_toArray, List.getElem_cons_succ, List.getElem_cons_zero, Act.put, List.setIfInBounds_toArray, List.set_cons_zero, List.set_cons_succ]
              have hS := hSn
              have HBc := HBn
              have hgc := hgn
              clear hSn HBn hgn hbn
              obtain ⟨wc, rfl⟩ : ∃ x : World, x = wn := ⟨_, rfl⟩
              refine HT.one (i := 7) (o := _) rfl (by kernel_rfl) (by decide) (by rfl) ?_
              intro K hK
              go_simp
              refine (RCMP_any A3 _ n3 c3 _ 1 1 1 _ wc.heap.size H3 HA).mono ?_
              rintro e wn ⟨rfl, hbn⟩
              have HBn := Lib.hid (HBc.out.trans (hbn.mono HBc.out.size))
              have hSn := (hbn.cell (p := ⟨gx, 1, none⟩) hgc).trans hS
              have hgn := Nat.lt_of_lt_of_le hgc hbn.size
              refine hK.out _ _ hSn ?_
              clear hK K hS HBc hgc
              try simp only [List.getElem_toArray, List.getElem_cons_succ, List.getElem_cons_zero, Act.put, List.setIfInBounds_toArray, List.set_cons_zero, List.set_cons_succ]
              have hS := hSn
              have HBc := HBn
              have hgc := hgn
              clear hSn HBn hgn hbn
              obtain ⟨wc, rfl⟩ : ∃ x : World, x = wn := ⟨_, rfl⟩
              refine HT.take (i := 8) (oi := _) (v := ?_) rfl (by kernel_rfl) (by kernel_rfl) (by decide) (fun _ _ _ h => h) (Or.inl ⟨by rfl, ?_⟩) hS ?_
              rotate_left
              · intro wz
                go_simp
                try with_reducible rfl
              simp only [List.getElem_toArray, List.getElem_cons_succ, List.getElem_cons_zero, Act.put, List.setIfInBounds_toArray, List.set_cons_zero, List.set_cons_succ]
              refine HT.done (by kernel_rfl) ?_
              clear hS
              simp only [List.drop_succ_cons, List.drop_zero]
              by_cases hg : Nat.gcd (decV u.data.toList) (decV t.data.toList) = 1
              · have hkc : cmpN (Nat.gcd (decV u.data.toList) (decV t.data.toList)) 1 = 0 := cmpN_eq hg
                have HVV : Hid (chkQ s t = 0) := by show _ = _; rw [HV.out, if_pos hg]
                rw [hkc]
                clear hkc hg
                go_wp2_with fail
                go_ret
                exact ⟨by rw [HVV.out]; rfl, HBW.out.trans (HBc.out.mono HBW.out.size)⟩
              · have hkc : (cmpN (Nat.gcd (decV u.data.toList) (decV t.data.toList)) 1 != 0) = true := by
                  have hgp := Nat.gcd_pos_of_pos_right (decV u.data.toList) HPS.out
                  unfold cmpN
                  rw [if_neg (by omega), if_neg hg]; rfl
                have HVV : Hid (chkQ s t = 3) := by show _ = _; rw [HV.out, if_neg hg]
                obtain ⟨kc, hkk⟩ : ∃ kc, cmpN (Nat.gcd (decV u.data.toList) (decV t.data.toList)) 1 = kc := ⟨_, rfl⟩
                rw [hkk] at hkc ⊢
                clear hkk hg
                go_wp2_with fail
                go_ret
                exact ⟨by rw [HVV.out]; rfl, HBW.out.trans (HBc.out.mono HBW.out.size)⟩
          · intro K hK
            go_simp
            obtain ⟨wn, ga, hwn, hga, HA0, hbn0, _⟩ := rcell_new wc 3 #[.int .i64 1]
            have hbn := hbn0.out
            have HA : Hid (LimAt wn wn.heap.size (some ⟨ga, 0, none⟩) 1 1 1) := by
              have hb8 : BlkN .i64 3 wn ga [1] := HA0.out
              exact ⟨by omega, by simp [maxLen], [1], ⟨DigN.cons (by omega) (DigN.nil _), by simp⟩, by simp [valB], hb8.row hb8.lt⟩
            rw [← hwn, ← hga]
            clear hwn hga HA0 hbn0
            replace H1 := Lib.hid (H1.out.to hbn (Nat.le_refl _) hbn.size)
            have HBn := Lib.hid (HBc.out.trans (hbn.mono HBc.out.size))
            have hSn := (hbn.cell (p := ⟨gx, 1, none⟩) hgc).trans hS
            have hgn := Nat.lt_of_lt_of_le hgc hbn.size
            refine hK.out _ _ hSn ?_
            clear hK K hS HBc hgc
            try simp only [List.getElem_toArray, List.getElem_cons_succ, List.getElem_cons_zero, Act.put, List.setIfInBounds_toArray, List.set_cons_zero, List.set_cons_succ]
            have hS := hSn
            have HBc := HBn
            have hgc := hgn
            clear hSn HBn hgn hbn
            obtain ⟨wc, rfl⟩ : ∃ x : World, x = wn := ⟨_, rfl⟩
            refine HT.one (i := 4) (o := _) rfl (by kernel_rfl) (by decide) (by rfl) ?_
            intro K hK
            go_simp
            refine (RLIMBS_any t HTA (by omega) _).mono ?_
            rintro e wn ⟨A2, n2, c2, rfl, h2, k2, hbn⟩
            have H2 := Lib.hid h2
            clear h2
            replace HA := Lib.hid (HA.out.to hbn (Nat.le_refl _) hbn.size)
            replace H1 := Lib.hid (H1.out.to hbn (Nat.le_refl _) hbn.size)
            have HBn := Lib.hid (HBc.out.trans (hbn.mono HBc.out.size))
            have hSn := (hbn.cell (p := ⟨gx, 1, none⟩) hgc).trans hS
            have hgn := Nat.lt_of_lt_of_le hgc hbn.size
            refine hK.out _ _ hSn ?_
            clear hK K hS HBc hgc
            try simp only [List.getElem_toArray, List.getElem_cons_succ, List.getElem_cons_zero, Act.put, List.setIfInBounds_toArray, List.set_cons_zero, List.set_cons_succ]
            have hS := hSn
            have HBc := HBn
            have hgc := hgn
            clear hSn HBn hgn hbn
            obtain ⟨wc, rfl⟩ : ∃ x : World, x = wn := ⟨_, rfl⟩
            refine HT.one (i := 5) (o := _) rfl (by kernel_rfl) (by decide) (by rfl) ?_
            intro K hK
            go_simp
            refine (RCOMMON_any A1 A2 n1 c1 _ n2 c2 _ (by omega) (by omega) _ wc.heap.size (Nat.le_refl _) H1 H2).mono ?_
            rintro e wn ⟨A3, n3, c3, rfl, h3, k3, hbn⟩
            have H3 := Lib.hid h3
            clear h3 H1 H2
            replace HA := Lib.hid (HA.out.to hbn (Nat.le_refl _) hbn.size)
            have HBn := Lib.hid (HBc.out.trans (hbn.mono HBc.out.size))
            have hSn := (hbn.cell (p := ⟨gx, 1, none⟩) hgc).trans hS
            have hgn := Nat.lt_of_lt_of_le hgc hbn.size
            refine hK.out _ _ hSn ?_
            clear hK K hS HBc hgc
            try simp only [List.getElem_toArray, List.getElem_cons_succ, List.getElem_cons_zero, Act.put, List.setIfInBounds_toArray, List.set_cons_zero, List.set_cons_succ]
            have hS := hSn
            have HBc := HBn
            have hgc := hgn
            clear hSn HBn hgn hbn
            obtain ⟨wc, rfl⟩ : ∃ x : World, x = wn := ⟨_, rfl⟩
            refine HT.one (i := 7) (o := _) rfl (by kernel_rfl) (by decide) (by rfl) ?_
            intro K hK
            go_simp
            refine (RCMP_any A3 _ n3 c3 _ 1 1 1 _ wc.heap.size H3 HA).mono ?_
            rintro e wn ⟨rfl, hbn⟩
            have HBn := Lib.hid (HBc.out.trans (hbn.mono HBc.out.size))
            have hSn := (hbn.cell (p := ⟨gx, 1, none⟩) hgc).trans hS
            have hgn := Nat.lt_of_lt_of_le hgc hbn.size
            refine hK.out _ _ hSn ?_
            clear hK K hS HBc hgc
            try simp only [List.getElem_toArray, List.getElem_cons_succ, List.getElem_cons_zero, Act.put, List.setIfInBounds_toArray, List.set_cons_zero, List.set_cons_succ]
            have hS := hSn
            have HBc := HBn
            have hgc := hgn
            clear hSn HBn hgn hbn
            obtain ⟨wc, rfl⟩ : ∃ x : World, x = wn := ⟨_, rfl⟩
            refine HT.take (i := 8) (oi := _) (v := ?_) rfl (by kernel_rfl) (by kernel_rfl) (by decide) (fun _ _ _ h => h) (Or.inl ⟨by rfl, ?_⟩) hS ?_
            rotate_left
            · intro wz
              go_simp
              try with_reducible rfl
            simp only [List.getElem_toArray, List.getElem_cons_succ, List.getElem_cons_zero, Act.put, List.setIfInBounds_toArray, List.set_cons_zero, List.set_cons_succ]
            refine HT.done (by kernel_rfl) ?_
            clear hS
            simp only [List.drop_succ_cons, List.drop_zero]
            by_cases hg : Nat.gcd (decV u.data.toList) (decV t.data.toList) = 1
            · have hkc : cmpN (Nat.gcd (decV u.data.toList) (decV t.data.toList)) 1 = 0 := cmpN_eq hg
              have HVV : Hid (chkQ s t = 0) := by show _ = _; rw [HV.out, if_pos hg]
              rw [hkc]
              clear hkc hg
              go_wp2_with fail
              go_ret
              exact ⟨by rw [HVV.out]; rfl, HBW.out.trans (HBc.out.mono HBW.out.size)⟩
            · have hkc : (cmpN (Nat.gcd (decV u.data.toList) (decV t.data.toList)) 1 != 0) = true := by
                have hgp := Nat.gcd_pos_of_pos_right (decV u.data.toList) HPS.out
                unfold cmpN
                rw [if_neg (by omega), if_neg hg]; rfl
              have HVV : Hid (chkQ s t = 3) := by show _ = _; rw [HV.out, if_neg hg]
              obtain ⟨kc, hkk⟩ : ∃ kc, cmpN (Nat.gcd (decV u.data.toList) (decV t.data.toList)) 1 = kc := ⟨_, rfl⟩
              rw [hkk] at hkc ⊢
              clear hkk hg
              go_wp2_with fail
              go_ret
              exact ⟨by rw [HVV.out]; rfl, HBW.out.trans (HBc.out.mono HBW.out.size)⟩
        · intro K hK
          go_simp
          obtain ⟨wn, ga, hwn, hga, HA0, hbn0, _⟩ := rcell_new wc 3 #[.int .i64 1]
          have hbn := hbn0.out
          have HA : Hid (LimAt wn wn.heap.size (some ⟨ga, 0, none⟩) 1 1 1) := by
            have hb8 : BlkN .i64 3 wn ga [1] := HA0.out
            exact ⟨by omega, by simp [maxLen], [1], ⟨DigN.cons (by omega) (DigN.nil _), by simp⟩, by simp [valB], hb8.row hb8.lt⟩
          rw [← hwn, ← hga]
          clear hwn hga HA0 hbn0
          skip
          have HBn := Lib.hid (HBc.out.trans (hbn.mono HBc.out.size))
          have hSn := (hbn.cell (p := ⟨gx, 1, none⟩) hgc).trans hS
          have hgn := Nat.lt_of_lt_of_le hgc hbn.size
          refine hK.out _ _ hSn ?_
          clear hK K hS HBc hgc
          try simp only [List.getElem_toArray, List.getElem_cons_succ, List.getElem_cons_zero, Act.put, List.setIfInBounds_toArray, List.set_cons_zero, List.set_cons_succ]
          have hS := hSn
          have HBc := HBn
          have hgc := hgn
          clear hSn HBn hgn hbn
          obtain ⟨wc, rfl⟩ : ∃ x : World, x = wn := ⟨_, rfl⟩
          refine HT.one (i := 1) (o := _) rfl (by kernel_rfl) (by decide) (by rfl) ?_
          intro K hK
          go_simp
          refine (RLIMBS_any u HVA (by omega) _).mono ?_
          rintro e wn ⟨A1, n1, c1, rfl, h1, k1, hbn⟩
          have H1 := Lib.hid h1
          clear h1
          replace HA := Lib.hid (HA.out.to hbn (Nat.le_refl _) hbn.size)
          have HBn := Lib.hid (HBc.out.trans (hbn.mono HBc.out.size))
          have hSn := (hbn.cell (p := ⟨gx, 1, none⟩) hgc).trans hS
          have hgn := Nat.lt_of_lt_of_le hgc hbn.size
          refine hK.out _ _ hSn ?_
          clear hK K hS HBc hgc
          try simp only [List.getElem_toArray, List.getElem_cons_succ, List.getElem_cons_zero, Act.put, List.setIfInBounds_toArray, List.set_cons_zero, List.set_cons_succ]
          have hS := hSn
          have HBc := HBn
          have hgc := hgn
          clear hSn HBn hgn hbn
          obtain ⟨wc, rfl⟩ : ∃ x : World, x = wn := ⟨_, rfl⟩
          refine HT.one (i := 4) (o := _) rfl (by kernel_rfl) (by decide) (by rfl) ?_
          intro K hK
          go_simp
          refine (RLIMBS_any t HTA (by omega) _).mono ?_
          rintro e wn ⟨A2, n2, c2, rfl, h2, k2, hbn⟩
          have H2 := Lib.hid h2
          clear h2
          replace HA := Lib.hid (HA.out.to hbn (Nat.le_refl _) hbn.size)
          replace H1 := Lib.hid (H1.out.to hbn (Nat.le_refl _) hbn.size)
          have HBn := Lib.hid (HBc.out.trans (hbn.mono HBc.out.size))
          have hSn := (hbn.cell (p := ⟨gx, 1, none⟩) hgc).trans hS
          have hgn := Nat.lt_of_lt_of_le hgc hbn.size
          refine hK.out _ _ hSn ?_
          clear hK K hS HBc hgc
          try simp only [List.getElem_toArray, List.getElem_cons_succ, List.getElem_cons_zero, Act.put, List.setIfInBounds_toArray, List.set_cons_zero, List.set_cons_succ]
          have hS := hSn
          have HBc := HBn
          have hgc := hgn
          clear hSn HBn hgn hbn
          obtain ⟨wc, rfl⟩ : ∃ x : World, x = wn := ⟨_, rfl⟩
          refine HT.one (i := 5) (o := _) rfl (by kernel_rfl) (by decide) (by rfl) ?_
          intro K hK
          go_simp
          refine (RCOMMON_any A1 A2 n1 c1 _ n2 c2 _ (by omega) (by omega) _ wc.heap.size (Nat.le_refl _) H1 H2).mono ?_
          rintro e wn ⟨A3, n3, c3, rfl, h3, k3, hbn⟩
          have H3 := Lib.hid h3
          clear h3 H1 H2
          replace HA := Lib.hid (HA.out.to hbn (Nat.le_refl _) hbn.size)
          have HBn := Lib.hid (HBc.out.trans (hbn.mono HBc.out.size))
          have hSn := (hbn.cell (p := ⟨gx, 1, none⟩) hgc).trans hS
          have hgn := Nat.lt_of_lt_of_le hgc hbn.size
          refine hK.out _ _ hSn ?_
          clear hK K hS HBc hgc
          try simp only [List.getElem_toArray, List.getElem_cons_succ, List.getElem_cons_zero, Act.put, List.setIfInBounds_toArray, List.set_cons_zero, List.set_cons_succ]
          have hS := hSn
          have HBc := HBn
          have hgc := hgn
          clear hSn HBn hgn hbn
          obtain ⟨wc, rfl⟩ : ∃ x : World, x = wn := ⟨_, rfl⟩
          refine HT.one (i := 7) (o := _) rfl (by kernel_rfl) (by decide) (by rfl) ?_
          intro K hK
          go_simp
          refine (RCMP_any A3 _ n3 c3 _ 1 1 1 _ wc.heap.size H3 HA).mono ?_
          rintro e wn ⟨rfl, hbn⟩
          have HBn := Lib.hid (HBc.out.trans (hbn.mono HBc.out.size))
          have hSn := (hbn.cell (p := ⟨gx, 1, none⟩) hgc).trans hS
          have hgn := Nat.lt_of_lt_of_le hgc hbn.size
          refine hK.out _ _ hSn ?_
          clear hK K hS HBc hgc
          try simp only [List.getElem_toArray, List.getElem_cons_succ, List.getElem_cons_zero, Act.put, List.setIfInBounds_toArray, List.set_cons_zero, List.set_cons_succ]
          have hS := hSn
          have HBc := HBn
          have hgc := hgn
          clear hSn HBn hgn hbn
          obtain ⟨wc, rfl⟩ : ∃ x : World, x = wn := ⟨_, rfl⟩
          refine HT.take (i := 8) (oi := _) (v := ?_) rfl (by kernel_rfl) (by kernel_rfl) (by decide) (fun _ _ _ h => h) (Or.inl ⟨by rfl, ?_⟩) hS ?_
          rotate_left
          · intro wz
            go_simp
            try with_reducible rfl
          simp only [List.getElem_toArray, List.getElem_cons_succ, List.getElem_cons_zero, Act.put, List.setIfInBounds_toArray, List.set_cons_zero, List.set_cons_succ]
          refine HT.done (by kernel_rfl) ?_
          clear hS
          simp only [List.drop_succ_cons, List.drop_zero]
          by_cases hg : Nat.gcd (decV u.data.toList) (decV t.data.toList) = 1
          · have hkc : cmpN (Nat.gcd (decV u.data.toList) (decV t.data.toList)) 1 = 0 := cmpN_eq hg
            have HVV : Hid (chkQ s t = 0) := by show _ = _; rw [HV.out, if_pos hg]
            rw [hkc]
            clear hkc hg
            go_wp2_with fail
            go_ret
            exact ⟨by rw [HVV.out]; rfl, HBW.out.trans (HBc.out.mono HBW.out.size)⟩
          · have hkc : (cmpN (Nat.gcd (decV u.data.toList) (decV t.data.toList)) 1 != 0) = true := by
              have hgp := Nat.gcd_pos_of_pos_right (decV u.data.toList) HPS.out
              unfold cmpN
              rw [if_neg (by omega), if_neg hg]; rfl
            have HVV : Hid (chkQ s t = 3) := by show _ = _; rw [HV.out, if_neg hg]
            obtain ⟨kc, hkk⟩ : ∃ kc, cmpN (Nat.gcd (decV u.data.toList) (decV t.data.toList)) 1 = kc := ⟨_, rfl⟩
            rw [hkk] at hkc ⊢
            clear hkk hg
            go_wp2_with fail
            go_ret
            exact ⟨by rw [HVV.out]; rfl, HBW.out.trans (HBc.out.mono HBW.out.size)⟩
    · have hb0 : bodyT s = [] := List.eq_nil_of_length_eq_zero (by omega)
      have HV : Hid (chkQ s t = 3) := by
        show _ = _; unfold chkQ
        rw [if_pos]
        unfold formQ
        rw [hb0, goodD_false (fun h => by rcases h.2 with h2 | ⟨c, r, h2, _⟩ <;> cases h2)]
        simp
      have hl9 : ¬ (1 : Int) < (s.size : Int) := by omega
      have HG1 := HGS
      clear hcons hb hg1 hb0
      go_enter Tryz.func19, Tryz.ntmps19
      go_upto_region 1 with (fail)
      rw [← hW, ← hgx]
      clear hW hgx
      go_wp2_with (first
        | (go_at_call 53; (with_reducible refine (RNUMB_any s hv _).mono ?_); rintro e w1 ⟨rfl, rfl⟩; rw [HG1.out])
        | (go_at_call 53; (with_reducible refine (RNUMB_any t ht _).mono ?_); rintro e w1 ⟨rfl, rfl⟩; rw [HG2.out]))
      go_ret
      exact ⟨by rw [HV.out]; rfl, HBW.out⟩
end Go.Proofs.YtnhmhjhfoonakaaGreatDoor
