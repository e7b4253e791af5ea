/- FromBytes, of the document: 16 bits. -/
import Derived.Test.YtlnjildkdmeflaaDoorYrg
set_option linter.unusedSimpArgs false
set_option linter.unusedVariables false
namespace Go.Proofs.YtlnjildkdmeflaaDoor
open Go.RowKit Go.Dw
set_option maxRecDepth 100000 in
set_option maxHeartbeats 16000000 in
theorem RFROMBYTES_16 (A0 : Option Addr) (n c0 : Nat) (b : By) (hc0 : n ≤ c0 ∧ c0 ≤ maxLen) (w : World) (B : Nat) (hB : B ≤ w.heap.size) (hh : Hid (BysAt w B A0 n b)) (m9 : Int) (hmN : 0 < w.heap.size) (hm9 : Hid (w.cell? ⟨0, 0, none⟩ = some (.int .i64 m9))) (HSEL : Hid (formOk (ckOf (placedS b).1.1 0).2 = true ∧ nAt (ckOf (placedS b).1.1 0).2 6 8 = 16)) :
    Calls Tryd.prog 8 #[.slice A0 n c0] w (OutFB w (fbS b)) := by
  have hlb := Lib.hid hh.out.1
  obtain ⟨Z, hZ⟩ : ∃ Z, fbS b = Z := ⟨_, rfl⟩
  have HZ := Lib.hid hZ
  rw [hZ]
  clear hZ
  go_enter Tryd.func8, Tryd.ntmps8
  go_upto_region 1 with (fail)
  obtain ⟨Y, gr, hY, hgr, HY, HBY, HSY⟩ := one_box w (.cells #[.int .i64 0, .slice none 0 0] 24)
  rw [← hgr, ← hY]
  have HGR := Lib.hid hgr
  have hsY := HBY.out.size
  clear hY hgr
  go_wp2_with fail
  refine (RPLACED_any A0 n c0 b hc0 _ B (Nat.le_trans hB hsY) (hh.out.below (HBY.out.mono hB) (Nat.le_refl _))).mono ?_
  obtain ⟨⟨⟨l, ps⟩, at_, f⟩, hP⟩ : ∃ P, placedS b = P := ⟨_, rfl⟩
  have HP := Lib.hid hP
  have HPL := Lib.hid (placed_len b)
  rw [hP] at HPL ⊢
  clear hP
  rintro e w1 ⟨v, u, rfl, hck, hps, hb1⟩
  dsimp only at hck hps HPL ⊢
  have HB1 := Lib.hid (HBY.out.trans (hb1.mono hsY))
  have HR1 := Lib.hid ((hb1.block gr (blk_lt HY.out)).trans HY.out)
  have hs1 := HB1.out.size
  have hgrY := blk_lt HY.out
  clear hb1 HY
  obtain ⟨A1, c1, rfl, hc11, hc12⟩ := hck.form
  obtain ⟨A2, c2, rfl, hc21, hc22⟩ := own_form hps
  have HCK := Lib.hid hck.at_
  have HPS := Lib.hid hps
  clear hck hps
  obtain ⟨L, hL⟩ : ∃ L, l.length = L := ⟨_, rfl⟩
  have HLN := Lib.hid hL
  have hLp : ps.length = L := HPL.out.symm.trans hL
  have HLP := Lib.hid hLp
  rw [hL] at HCK hc11 ⊢
  rw [hLp] at HPS hc21 ⊢
  clear hL hLp
  have hgr9 := blk_lt HR1.out
  have hgrw : w.heap.size ≤ gr := by rw [HGR.out]; exact Nat.le_refl _
  obtain ⟨x0, x1, f0, f1⟩ := cells2 HR1.out
  by_cases hf : f = 0
  · subst hf
    obtain ⟨_, _, h1000, hsm⟩ := placed_back HP.out
    have HSM := Lib.hid hsm
    have hL9 : L ≤ 1000 := by rw [← HLN.out]; exact h1000
    have HZ2 : Hid (Z = fbR b.length ps 0 .start l) := by
      show _ = _
      rw [← HZ.out]
      unfold fbS
      rw [HP.out]
      rfl
    clear hsm h1000 HZ
    by_cases hL0 : L = 0
    · subst hL0
      have HV : Hid (Z = fbErr n 10) := by
        show _ = _
        rw [HZ2.out, List.eq_nil_of_length_eq_zero HLN.out, ← hlb.out]
        rfl
      go_wp2_with fail
      have HS9 := two_set w1 gr _ _ (.int .i64 0) (.slice none 0 0) x0 x1
      refine fin_snd4 rfl rfl rfl HS9.1 HS9.2 ?_
      rw [HV.out]
      exact OutFB.err (set2_below HB1.out hgrw)
    · have hLi : ((L : Int) == 0) = false := by simp; omega
      have hL0' : 0 < L := by omega
      have HL0 : Hid (0 < l.length) := by show _ < _; rw [HLN.out]; exact hL0'
      clear hL0 x0 x1 f0 f1
      obtain ⟨b', o', e', hbB', p0, A, c, p1, hcc1, hcc2, q3⟩ := HCK.out.2 0 hL0'
      subst e'
      obtain ⟨gp, cp, e9, hgpY, hgp, _, _, hh9⟩ := own_slot HPS.out hL0'
      injection e9 with e9 _ _
      subst e9
      have HPP : Hid (∀ j, j < L → w1.cell? ⟨gp, j, none⟩ = some (.int .i64 (elOf ps j))) := fun j hj => by
        refine (hh9 j hj).1.trans ?_
        have hkp : j < ps.length := by rw [HLP.out]; exact hj
        simp [elOf, List.getD, List.getElem?_eq_getElem hkp]
      have hne1 : ¬ gp = gr := by omega
      have hne2 : ¬ gr = gp := by omega
      clear hh9
      have hdl : ((l.getD 0 ([], [])).2).length ≤ 8000000 := HSM.out _ (by simp [List.getD, List.getElem?_eq_getElem HL0.out])
      obtain ⟨⟨nm, d⟩, hcd⟩ : ∃ x, l.getD 0 ([], []) = x := ⟨_, rfl⟩
      have HCD : Hid (ckOf l 0 = (nm, d)) := hcd
      rw [hcd] at p0 p1 hcc1 q3 hdl
      dsimp only at p0 p1 hcc1 q3 hdl
      have p0' : w1.cell? ⟨b', o', none⟩ = some (.string (strB nm)) := by have h := p0; rw [Nat.zero_mul, Nat.add_zero] at h; exact h
      have p1' : w1.cell? ⟨b', o' + 1, none⟩ = some (.slice A d.length c) := by have h := p1; rw [Nat.zero_mul, Nat.add_zero] at h; exact h
      have hD := Lib.hid q3
      clear p0 p1 q3 hcd
      have HRF : Hid (Below w1.heap.size w1 w1) := Below.refl _ _
      obtain ⟨nd, hnd⟩ : ∃ nd, d.length = nd := ⟨_, rfl⟩
      have HND := Lib.hid hnd
      rw [hnd] at hD hdl hcc1 p1'
      clear hnd
      by_cases hnm : nm = [102, 111, 114, 109]
      · have e1 : ((strB nm).toList != [102, 111, 114, 109]) = false := by
          rw [ByteArray.toList_eq, strB_data, hnm]; rfl
        have e1' : (strB nm).toList = [102, 111, 114, 109] := by rw [ByteArray.toList_eq, strB_data, hnm]
        have HNM := Lib.hid hnm
        clear hnm
        by_cases h12 : nd = 12
        · subst h12
          go_wp2_with fail
          have hlen := HND.out
          have hc : 12 ≤ c ∧ c ≤ maxLen := ⟨hcc1, hcc2⟩
          obtain ⟨N, hNe⟩ : ∃ N, w1.heap.size = N := ⟨_, rfl⟩
          have hN : N ≤ w1.heap.size := by omega
          have HD9 := hD
          rw [hNe] at hD
          clear hNe p0' p1' e1 e1'
          have hl := Lib.hid hD.out.1
          have hl12 := Lib.hid hlen
          have HS4 : ∀ W, (Instr.slice 26 (.slice A 12 c) none (some (.int .i64 4)) none).run Tryd.prog W = .ok (.slice (cutA A c 0) 4 c) W := fun W => run_cut_to A 12 c 4 (by omega) W
          have HS6 : ∀ W, (Instr.slice 26 (.slice A 12 c) (some (.int .i64 4)) (some (.int .i64 6)) none).run Tryd.prog W = .ok (.slice (cutA A c 4) 2 (c - 4)) W := fun W => run_cut_by A 12 c 4 6 (by omega) (by omega) W
          have HS8 : ∀ W, (Instr.slice 26 (.slice A 12 c) (some (.int .i64 6)) (some (.int .i64 8)) none).run Tryd.prog W = .ok (.slice (cutA A c 6) 2 (c - 6)) W := fun W => run_cut_by A 12 c 6 8 (by omega) (by omega) W
          have HS9 : ∀ W, (Instr.slice 26 (.slice A 12 c) (some (.int .i64 8)) none none).run Tryd.prog W = .ok (.slice (cutA A c 8) 4 (c - 8)) W := fun W => run_cut_from A 12 c 8 (by omega) (by omega) W
          have HG4 := Lib.hid (hD.out.cut hc.1 (p := 0) (q := 4) (by omega) (by omega))
          have HG6 := Lib.hid (hD.out.cut hc.1 (p := 4) (q := 6) (by omega) (by omega))
          have HG8 := Lib.hid (hD.out.cut hc.1 (p := 6) (q := 8) (by omega) (by omega))
          have HG9 := Lib.hid (hD.out.cut hc.1 (p := 8) (q := 12) (by omega) (by omega))
          have c4 := numB_lt (cutB d 0 4)
          have c6 := numB_lt (cutB d 4 6)
          have c8 := numB_lt (cutB d 6 8)
          have c9 := numB_lt (cutB d 8 12)
          rw [cutB_length (by omega) (by omega)] at c4 c6 c8 c9
          simp only [Nat.reduceSub, Nat.reducePow] at c4 c6 c8 c9
          simp only [Nat.reduceSub] at HG4 HG6 HG8 HG9
          obtain ⟨v4, hv4⟩ : ∃ v, numB (cutB d 0 4) = v := ⟨_, rfl⟩
          obtain ⟨v6, hv6⟩ : ∃ v, numB (cutB d 4 6) = v := ⟨_, rfl⟩
          obtain ⟨v8, hv8⟩ : ∃ v, numB (cutB d 6 8) = v := ⟨_, rfl⟩
          obtain ⟨v9, hv9⟩ : ∃ v, numB (cutB d 8 12) = v := ⟨_, rfl⟩
          rw [hv4] at c4
          rw [hv6] at c6
          rw [hv8] at c8
          rw [hv9] at c9
          have HV4 := Lib.hid hv4
          have HV6 := Lib.hid hv6
          have HV8 := Lib.hid hv8
          have HV9 := Lib.hid hv9
          clear hv4 hv6 hv8 hv9
          have HC4 : Hid (∀ k, Calls Tryd.prog 28 #[.slice (cutA A c 0) 4 c] (w1.drewN k) fun e w' => e = .returned (.int .i64 ((v4 : Nat) : Int)) ∧ ∃ m, w' = (w1.drewN k).drewN m) := fun k => by
            have h := RNUMBER_any (cutA A c 0) 4 c (cutB d 0 4) (by omega) (w1.drewN k) N (Nat.le_trans hN (belowN (Below.refl N w1) k).size) (HG4.out.below (belowN (Below.refl _ _) _) (Nat.le_refl _))
            rw [HV4.out] at h
            exact h.mono fun e w9 h => ⟨h.1, 0, h.2.symm⟩
          have HC6 : Hid (∀ k, Calls Tryd.prog 28 #[.slice (cutA A c 4) 2 (c - 4)] (w1.drewN k) fun e w' => e = .returned (.int .i64 ((v6 : Nat) : Int)) ∧ ∃ m, w' = (w1.drewN k).drewN m) := fun k => by
            have h := RNUMBER_any (cutA A c 4) 2 (c - 4) (cutB d 4 6) (by omega) (w1.drewN k) N (Nat.le_trans hN (belowN (Below.refl N w1) k).size) (HG6.out.below (belowN (Below.refl _ _) _) (Nat.le_refl _))
            rw [HV6.out] at h
            exact h.mono fun e w9 h => ⟨h.1, 0, h.2.symm⟩
          have HC8 : Hid (∀ k, Calls Tryd.prog 28 #[.slice (cutA A c 6) 2 (c - 6)] (w1.drewN k) fun e w' => e = .returned (.int .i64 ((v8 : Nat) : Int)) ∧ ∃ m, w' = (w1.drewN k).drewN m) := fun k => by
            have h := RNUMBER_any (cutA A c 6) 2 (c - 6) (cutB d 6 8) (by omega) (w1.drewN k) N (Nat.le_trans hN (belowN (Below.refl N w1) k).size) (HG8.out.below (belowN (Below.refl _ _) _) (Nat.le_refl _))
            rw [HV8.out] at h
            exact h.mono fun e w9 h => ⟨h.1, 0, h.2.symm⟩
          have HC9 : Hid (∀ k, Calls Tryd.prog 28 #[.slice (cutA A c 8) 4 (c - 8)] (w1.drewN k) fun e w' => e = .returned (.int .i64 ((v9 : Nat) : Int)) ∧ ∃ m, w' = (w1.drewN k).drewN m) := fun k => by
            have h := RNUMBER_any (cutA A c 8) 4 (c - 8) (cutB d 8 12) (by omega) (w1.drewN k) N (Nat.le_trans hN (belowN (Below.refl N w1) k).size) (HG9.out.below (belowN (Below.refl _ _) _) (Nat.le_refl _))
            rw [HV9.out] at h
            exact h.mono fun e w9 h => ⟨h.1, 0, h.2.symm⟩
          go_quiet ((first
            | (go_at_call 28; with_reducible exact Calls.quiet_of (HC4.out _))
            | (go_at_call 28; with_reducible exact Calls.quiet_of (HC6.out _))
            | (go_at_call 28; with_reducible exact Calls.quiet_of (HC8.out _))
            | (go_at_call 28; with_reducible exact Calls.quiet_of (HC9.out _))))
          clear HC4 HC6 HC8 HC9 HS4 HS6 HS8 HS9 HG4 HG6 HG8 HG9 hlen
          have HF : Hid (formOk d = formG v4 v6 v8 v9) := by
            show _ = _
            unfold formOk nAt
            rw [HV4.out, HV6.out, HV8.out, HV9.out, hl.out]
            rfl
          have HBN : Hid (Below w1.heap.size w1 (w1.drewN nq)) := belowN (Below.refl _ _) nq
          obtain ⟨W, hW⟩ : ∃ W, W = w1.drewN nq := ⟨_, rfl⟩
          rw [← hW] at HBN ⊢
          clear hW
          rcases form_cases v4 v6 v8 v9 with ⟨hG, hr⟩ | ⟨hG, hr, d1⟩ | ⟨hG, hr, d1, d2⟩ | ⟨hG, hr, d1, d2, b1, b2⟩ | ⟨hG, hr, d1, d2, b1, d4⟩ | ⟨hG, hr, d1, d2, b1, b2, d4⟩ | ⟨hG, hr, d1, d2, b1, d4⟩ | ⟨hG, hr, d1, d2, b1, b2, d4⟩
          · skip
            exfalso
            have h := HSEL.out
            rw [HP.out] at h
            dsimp only at h
            rw [HCD.out] at h
            dsimp only at h
            rw [HF.out, hG] at h
            first
              | (revert h; simp; done)
              | (have h2 := h.2
                 unfold nAt at h2
                 rw [HV8.out] at h2
                 rw [h2] at hb8
                 revert hb8
                 decide)
          · skip
            exfalso
            have h := HSEL.out
            rw [HP.out] at h
            dsimp only at h
            rw [HCD.out] at h
            dsimp only at h
            rw [HF.out, hG] at h
            first
              | (revert h; simp; done)
              | (have h2 := h.2
                 unfold nAt at h2
                 rw [HV8.out] at h2
                 rw [h2] at hb8
                 revert hb8
                 decide)
          · skip
            exfalso
            have h := HSEL.out
            rw [HP.out] at h
            dsimp only at h
            rw [HCD.out] at h
            dsimp only at h
            rw [HF.out, hG] at h
            first
              | (revert h; simp; done)
              | (have h2 := h.2
                 unfold nAt at h2
                 rw [HV8.out] at h2
                 rw [h2] at hb8
                 revert hb8
                 decide)
          · skip
            exfalso
            have h := HSEL.out
            rw [HP.out] at h
            dsimp only at h
            rw [HCD.out] at h
            dsimp only at h
            rw [HF.out, hG] at h
            first
              | (revert h; simp; done)
              | (have h2 := h.2
                 unfold nAt at h2
                 rw [HV8.out] at h2
                 rw [h2] at hb8
                 revert hb8
                 decide)
          · skip
            exfalso
            have h := HSEL.out
            rw [HP.out] at h
            dsimp only at h
            rw [HCD.out] at h
            dsimp only at h
            rw [HF.out, hG] at h
            first
              | (revert h; simp; done)
              | (have h2 := h.2
                 unfold nAt at h2
                 rw [HV8.out] at h2
                 rw [h2] at hb8
                 revert hb8
                 decide)
          · skip
            exfalso
            have h := HSEL.out
            rw [HP.out] at h
            dsimp only at h
            rw [HCD.out] at h
            dsimp only at h
            rw [HF.out, hG] at h
            first
              | (revert h; simp; done)
              | (have h2 := h.2
                 unfold nAt at h2
                 rw [HV8.out] at h2
                 rw [h2] at hb8
                 revert hb8
                 decide)
          · have hb8 := b1
            have HF0 := HF
            have HR := Lib.hid hr
            have HG := Lib.hid hG
            obtain ⟨_, hT1, hT2, _, hm⟩ := formG_in hG
            have e8 : ((v8 : Nat) : Int) = 16 := by simpa using hb8
            have HE8 : Hid (v8 = 16) := by show _ = _; omega
            clear hr hG hb8 HF0
            have HZ3 : Hid (Z = fbR b.length ps 1 (.mid v4 v6 v8 v9 []) (l.drop 1)) := by
              show _ = _
              rw [HZ2.out]
              conv => lhs; rw [drop_ck0 HL0.out, HCD.out]
              have h1 : stepS .start (nm, d) = some (.mid v4 v6 v8 v9 []) := by
                rw [stepS_start, if_pos ⟨HNM.out, by show formOk d = true; rw [HF.out, HG.out]⟩]
                unfold nAt
                rw [HV4.out, HV6.out, HV8.out, HV9.out]
              rw [fbR_some h1]
            go_upto_region 12 with (go_at_call 29; refine (RISRATE_eq _ _ HR _).mono ?_; rintro e w2 ⟨rfl, rfl⟩)
            try rw [e8]
            clear e8
            go_wp2_with fail
            go_loopw [15, 16] (fun s i wr => ∃ (k na : Nat) (acc : List Nx) (A6 : Option Addr) (c6 : Nat), 1 ≤ k ∧ k ≤ L ∧ i = .int .i64 k ∧ s = .slice A6 na c6 ∧ na ≤ 50 ∧ Hid (acc.length = na) ∧ Hid (OwnNts wr w1.heap.size (.slice A6 na c6) acc) ∧ Hid (Z = fbR b.length ps k (.mid v4 v6 v8 v9 acc) (l.drop k)) ∧ Hid (Below w1.heap.size w1 wr)) (fun _ i _ => L - (intOf i).toNat)
            case atStart => exact ⟨1, 0, [], none, 0, Nat.le_refl _, hL0', rfl, rfl, by omega, rfl, OwnNts.nil _ _, HZ3, HBN⟩
            case round =>
              clear HZ3 HBN
              obtain ⟨wk, rfl⟩ : ∃ x : World, x = wr := ⟨_, rfl⟩
              obtain ⟨k, na, acc, A6, c6, hk1, hk, rfl, rfl, hna, HNA, HNT, HZ4, hb⟩ := hrel
              have hk0 : (0 : Int) ≤ (k : Int) := by omega
              have hsk := hb.out.size
              have HBk := Lib.hid (HB1.out.trans (hb.out.mono hs1))
              by_cases hkl : k < L
              · have hki : (k : Int) < (L : Int) := by omega
                have hke : ((k : Int) == (L : Int)) = false := by simp; omega
                have HKL : Hid (k < l.length) := by show _ < _; rw [HLN.out]; exact hkl
                obtain ⟨b2, o2, e2, hbB2, p0, A', c', p1, q1, q2, q3⟩ := HCK.out.2 k hkl
                injection e2 with e2
                injection e2 with e21 e22 _
                subst e21 e22
                have hdl2 : ((l.getD k ([], [])).2).length ≤ 8000000 := HSM.out _ (by simp [List.getD, List.getElem?_eq_getElem HKL.out])
                obtain ⟨⟨nk, dk⟩, hcd⟩ : ∃ x, l.getD k ([], []) = x := ⟨_, rfl⟩
                have HCK9 : Hid (ckOf l k = (nk, dk)) := hcd
                rw [hcd] at p0 p1 q1 q3 hdl2
                dsimp only at p0 p1 q1 q3 hdl2
                obtain ⟨nl, hnl⟩ : ∃ nl, dk.length = nl := ⟨_, rfl⟩
                have HNLK := Lib.hid hnl
                rw [hnl] at p1 q1 q3 hdl2
                have p0' : wk.cell? ⟨b', o' + k * 2, none⟩ = some (.string (strB nk)) := (hb.out.cell (p := ⟨b', o' + k * 2, none⟩) hbB2).trans p0
                have p1' := (hb.out.cell (p := ⟨b', o' + k * 2 + 1, none⟩) hbB2).trans p1
                have HQ3 := Lib.hid q3
                have HP0 := Lib.hid p0
                have HP1 := Lib.hid p1
                clear p0 p1 q3 hcd hnl
                by_cases hnote : nk = [110, 111, 116, 101]
                · skip
                  have e2 : ((strB nk).toList == [110, 111, 116, 101]) = true := by rw [ByteArray.toList_eq, strB_data, hnote]; rfl
                  have HNOTE : Hid ((nk, dk).1 = [110, 111, 116, 101]) := hnote
                  have hcv : (convert 26 9 (.slice A' nl c')).run Tryd.prog wk = .ok (.string (strB dk)) wk := run_str_of (HQ3.out.below hb.out (Nat.le_refl _))
                  clear hnote
                  go_wp2_with fail
                  clear hcv p0' p1' e2
                  refine (SCUT8_any 0 (strB dk) m9 (by rw [strB_size, HNLK.out]; exact hdl2) _ ((HBk.out.cell (p := ⟨0, 0, none⟩) hmN).trans hm9.out)).mono ?_
                  rintro e w2 ⟨lft, rgt, ok, rfl, HCUT, hlz, hrz, hb2⟩
                  rw [strB_size, HNLK.out] at hlz hrz
                  have HC2 : Hid (Lib.cut dk [0] = (lft.data.toList, rgt.data.toList, ok)) := by have h := HCUT.out; rw [strB_data] at h; exact h
                  have HB2 := Lib.hid (hb.out.trans (hb2.mono hsk))
                  have HNT2 : Hid (OwnNts w2 w1.heap.size (.slice A6 na c6) acc) := OwnNts.below HNT.out hb2
                  clear HCUT hb2
                  obtain ⟨bn, hbn⟩ : ∃ bn, nameN lft.data.toList = bn := ⟨_, rfl⟩
                  obtain ⟨bt, hbt⟩ : ∃ bt, textN rgt.data.toList = bt := ⟨_, rfl⟩
                  have HBN1 := Lib.hid hbn
                  have HBT1 := Lib.hid hbt
                  clear hbn hbt
                  cases ok with
                  | false =>
                    have HNO : Hid (noteR acc (nk, dk).2 = none) := by
                      show noteR acc dk = none
                      unfold noteR
                      rw [HC2.out, if_pos (.inl rfl)]
                    have HV : Hid (Z = fbErr (elOf ps k) 10) := by
                      show _ = _
                      rw [HZ4.out, drop_ck HKL.out, HCK9.out, fbR_none]
                      rw [stepS_mid, if_pos HNOTE.out, HNO.out]
                      rfl
                    go_wp2_with (first
                      | (go_at_call 22; refine (RISNAME_any lft (by omega) _).mono ?_; rintro e w3 ⟨rfl, rfl⟩; rw [HBN1.out])
                      | (go_at_call 23; refine (ISTEXT_any rgt (by omega) _).mono ?_; rintro e w3 ⟨rfl, rfl⟩; rw [HBT1.out]))
                    go_loop [20, 21] (fun bd i => ∃ j : Nat, j ≤ na ∧ i = .int .i64 j ∧ bd = .bool true) (fun _ i => na - (intOf i).toNat)
                    case atStart => exact ⟨0, Nat.zero_le _, rfl, rfl⟩
                    case round =>
                      obtain ⟨j, hj, rfl, rfl⟩ := hrel
                      by_cases hjl : j < na
                      · have hji : (j : Int) < (na : Int) := by omega
                        go_wp2_with fail
                        go_round
                        case rel => exact ⟨j + 1, by omega, by go_num, rfl⟩
                        case measure => simp [intOf]; omega
                      · have hji : ¬ (j : Int) < (na : Int) := by omega
                        clear hjl
                        have p9 := (HB2.out.cell (p := ⟨gp, k, none⟩) hgp).trans (HPP.out (k) (by omega))
                        have HR5 := Lib.hid ((HB2.out.block gr hgr9).trans HR1.out)
                        have HBW := Lib.hid (HB1.out.trans (HB2.out.mono hs1))
                        obtain ⟨x0, x1, f0, f1⟩ := cells2 HR5.out
                        go_wp2_with fail
                        go_region
                        go_wp2_with fail
                        have HS9 := two_set w2 gr _ _ (.int .i64 0) (.slice none 0 0) x0 x1
                        refine fin_snd4 rfl rfl rfl HS9.1 HS9.2 ?_
                        rw [HV.out]
                        exact OutFB.err (set2_below HBW.out hgrw).drew
                  | true =>
                    cases bn with
                    | false =>
                      have HNO : Hid (noteR acc (nk, dk).2 = none) := by
                        show noteR acc dk = none
                        unfold noteR
                        rw [HC2.out, if_pos (.inr (.inl (by unfold noteS; rw [HBN1.out]; simp)))]
                      have HV : Hid (Z = fbErr (elOf ps k) 10) := by
                        show _ = _
                        rw [HZ4.out, drop_ck HKL.out, HCK9.out, fbR_none]
                        rw [stepS_mid, if_pos HNOTE.out, HNO.out]
                        rfl
                      go_wp2_with (first
                        | (go_at_call 22; refine (RISNAME_any lft (by omega) _).mono ?_; rintro e w3 ⟨rfl, rfl⟩; rw [HBN1.out])
                        | (go_at_call 23; refine (ISTEXT_any rgt (by omega) _).mono ?_; rintro e w3 ⟨rfl, rfl⟩; rw [HBT1.out]))
                      go_loop [20, 21] (fun bd i => ∃ j : Nat, j ≤ na ∧ i = .int .i64 j ∧ bd = .bool true) (fun _ i => na - (intOf i).toNat)
                      case atStart => exact ⟨0, Nat.zero_le _, rfl, rfl⟩
                      case round =>
                        obtain ⟨j, hj, rfl, rfl⟩ := hrel
                        by_cases hjl : j < na
                        · have hji : (j : Int) < (na : Int) := by omega
                          go_wp2_with fail
                          go_round
                          case rel => exact ⟨j + 1, by omega, by go_num, rfl⟩
                          case measure => simp [intOf]; omega
                        · have hji : ¬ (j : Int) < (na : Int) := by omega
                          clear hjl
                          have p9 := (HB2.out.cell (p := ⟨gp, k, none⟩) hgp).trans (HPP.out (k) (by omega))
                          have HR5 := Lib.hid ((HB2.out.block gr hgr9).trans HR1.out)
                          have HBW := Lib.hid (HB1.out.trans (HB2.out.mono hs1))
                          obtain ⟨x0, x1, f0, f1⟩ := cells2 HR5.out
                          go_wp2_with fail
                          go_region
                          go_wp2_with fail
                          have HS9 := two_set w2 gr _ _ (.int .i64 0) (.slice none 0 0) x0 x1
                          refine fin_snd4 rfl rfl rfl HS9.1 HS9.2 ?_
                          rw [HV.out]
                          exact OutFB.err (set2_below HBW.out hgrw).drew
                    | true =>
                      cases bt with
                      | false =>
                        have HNO : Hid (noteR acc (nk, dk).2 = none) := by
                          show noteR acc dk = none
                          unfold noteR
                          rw [HC2.out, if_pos (.inr (.inl (by unfold noteS; rw [HBN1.out, HBT1.out]; simp)))]
                        have HV : Hid (Z = fbErr (elOf ps k) 10) := by
                          show _ = _
                          rw [HZ4.out, drop_ck HKL.out, HCK9.out, fbR_none]
                          rw [stepS_mid, if_pos HNOTE.out, HNO.out]
                          rfl
                        go_wp2_with (first
                          | (go_at_call 22; refine (RISNAME_any lft (by omega) _).mono ?_; rintro e w3 ⟨rfl, rfl⟩; rw [HBN1.out])
                          | (go_at_call 23; refine (ISTEXT_any rgt (by omega) _).mono ?_; rintro e w3 ⟨rfl, rfl⟩; rw [HBT1.out]))
                        go_loop [20, 21] (fun bd i => ∃ j : Nat, j ≤ na ∧ i = .int .i64 j ∧ bd = .bool true) (fun _ i => na - (intOf i).toNat)
                        case atStart => exact ⟨0, Nat.zero_le _, rfl, rfl⟩
                        case round =>
                          obtain ⟨j, hj, rfl, rfl⟩ := hrel
                          by_cases hjl : j < na
                          · have hji : (j : Int) < (na : Int) := by omega
                            go_wp2_with fail
                            go_round
                            case rel => exact ⟨j + 1, by omega, by go_num, rfl⟩
                            case measure => simp [intOf]; omega
                          · have hji : ¬ (j : Int) < (na : Int) := by omega
                            clear hjl
                            have p9 := (HB2.out.cell (p := ⟨gp, k, none⟩) hgp).trans (HPP.out (k) (by omega))
                            have HR5 := Lib.hid ((HB2.out.block gr hgr9).trans HR1.out)
                            have HBW := Lib.hid (HB1.out.trans (HB2.out.mono hs1))
                            obtain ⟨x0, x1, f0, f1⟩ := cells2 HR5.out
                            go_wp2_with fail
                            go_region
                            go_wp2_with fail
                            have HS9 := two_set w2 gr _ _ (.int .i64 0) (.slice none 0 0) x0 x1
                            refine fin_snd4 rfl rfl rfl HS9.1 HS9.2 ?_
                            rw [HV.out]
                            exact OutFB.err (set2_below HBW.out hgrw).drew
                      | true =>
                        by_cases h200 : 200 < rgt.size
                        · have d200 : decide ((200 : Int) < (rgt.size : Int)) = true := by simp; omega
                          have HNO : Hid (noteR acc (nk, dk).2 = none) := by
                            show noteR acc dk = none
                            unfold noteR
                            rw [HC2.out, if_pos (.inr (.inl (by unfold noteS; rw [HBN1.out, HBT1.out, if_neg (by simp), if_neg (by simp), if_pos (by rw [len_dat]; exact h200)]; decide)))]
                          clear h200
                          have HV : Hid (Z = fbErr (elOf ps k) 10) := by
                            show _ = _
                            rw [HZ4.out, drop_ck HKL.out, HCK9.out, fbR_none]
                            rw [stepS_mid, if_pos HNOTE.out, HNO.out]
                            rfl
                          go_wp2_with (first
                            | (go_at_call 22; refine (RISNAME_any lft (by omega) _).mono ?_; rintro e w3 ⟨rfl, rfl⟩; rw [HBN1.out])
                            | (go_at_call 23; refine (ISTEXT_any rgt (by omega) _).mono ?_; rintro e w3 ⟨rfl, rfl⟩; rw [HBT1.out]))
                          go_loop [20, 21] (fun bd i => ∃ j : Nat, j ≤ na ∧ i = .int .i64 j ∧ bd = .bool true) (fun _ i => na - (intOf i).toNat)
                          case atStart => exact ⟨0, Nat.zero_le _, rfl, rfl⟩
                          case round =>
                            obtain ⟨j, hj, rfl, rfl⟩ := hrel
                            by_cases hjl : j < na
                            · have hji : (j : Int) < (na : Int) := by omega
                              go_wp2_with fail
                              go_round
                              case rel => exact ⟨j + 1, by omega, by go_num, rfl⟩
                              case measure => simp [intOf]; omega
                            · have hji : ¬ (j : Int) < (na : Int) := by omega
                              clear hjl
                              have p9 := (HB2.out.cell (p := ⟨gp, k, none⟩) hgp).trans (HPP.out (k) (by omega))
                              have HR5 := Lib.hid ((HB2.out.block gr hgr9).trans HR1.out)
                              have HBW := Lib.hid (HB1.out.trans (HB2.out.mono hs1))
                              obtain ⟨x0, x1, f0, f1⟩ := cells2 HR5.out
                              go_wp2_with fail
                              go_region
                              go_wp2_with fail
                              have HS9 := two_set w2 gr _ _ (.int .i64 0) (.slice none 0 0) x0 x1
                              refine fin_snd4 rfl rfl rfl HS9.1 HS9.2 ?_
                              rw [HV.out]
                              exact OutFB.err (set2_below HBW.out hgrw).drew
                        · have d200 : decide ((200 : Int) < (rgt.size : Int)) = false := by simp; omega
                          have HNS : Hid (noteS lft.data.toList rgt.data.toList = 0) := by show _ = _; unfold noteS; rw [HBN1.out, HBT1.out, if_neg (by simp), if_neg (by simp), if_neg (by rw [len_dat]; exact h200)]
                          clear h200
                          by_cases h50 : na = 50
                          · have HNO : Hid (noteR acc (nk, dk).2 = none) := by
                              show noteR acc dk = none
                              unfold noteR
                              rw [HC2.out, if_pos (.inr (.inr (.inl (by rw [HNA.out]; exact h50))))]
                            have d50 : ((na : Int) == 50) = true := by simp; omega
                            clear h50
                            have HV : Hid (Z = fbErr (elOf ps k) 10) := by
                              show _ = _
                              rw [HZ4.out, drop_ck HKL.out, HCK9.out, fbR_none]
                              rw [stepS_mid, if_pos HNOTE.out, HNO.out]
                              rfl
                            go_wp2_with (first
                              | (go_at_call 22; refine (RISNAME_any lft (by omega) _).mono ?_; rintro e w3 ⟨rfl, rfl⟩; rw [HBN1.out])
                              | (go_at_call 23; refine (ISTEXT_any rgt (by omega) _).mono ?_; rintro e w3 ⟨rfl, rfl⟩; rw [HBT1.out]))
                            go_loop [20, 21] (fun bd i => ∃ j : Nat, j ≤ na ∧ i = .int .i64 j ∧ bd = .bool true) (fun _ i => na - (intOf i).toNat)
                            case atStart => exact ⟨0, Nat.zero_le _, rfl, rfl⟩
                            case round =>
                              obtain ⟨j, hj, rfl, rfl⟩ := hrel
                              by_cases hjl : j < na
                              · have hji : (j : Int) < (na : Int) := by omega
                                go_wp2_with fail
                                go_round
                                case rel => exact ⟨j + 1, by omega, by go_num, rfl⟩
                                case measure => simp [intOf]; omega
                              · have hji : ¬ (j : Int) < (na : Int) := by omega
                                clear hjl
                                have p9 := (HB2.out.cell (p := ⟨gp, k, none⟩) hgp).trans (HPP.out (k) (by omega))
                                have HR5 := Lib.hid ((HB2.out.block gr hgr9).trans HR1.out)
                                have HBW := Lib.hid (HB1.out.trans (HB2.out.mono hs1))
                                obtain ⟨x0, x1, f0, f1⟩ := cells2 HR5.out
                                go_wp2_with fail
                                go_region
                                go_wp2_with fail
                                have HS9 := two_set w2 gr _ _ (.int .i64 0) (.slice none 0 0) x0 x1
                                refine fin_snd4 rfl rfl rfl HS9.1 HS9.2 ?_
                                rw [HV.out]
                                exact OutFB.err (set2_below HBW.out hgrw).drew
                          · have d50 : ((na : Int) == 50) = false := by simp; omega
                            have H50 := Lib.hid h50
                            clear h50
                            go_wp2_with (first
                              | (go_at_call 22; refine (RISNAME_any lft (by omega) _).mono ?_; rintro e w3 ⟨rfl, rfl⟩; rw [HBN1.out])
                              | (go_at_call 23; refine (ISTEXT_any rgt (by omega) _).mono ?_; rintro e w3 ⟨rfl, rfl⟩; rw [HBT1.out]))
                            go_loop [20, 21] (fun bd i => ∃ j : Nat, j ≤ na ∧ i = .int .i64 j ∧ bd = .bool (isIn (acc.take j) lft.data.toList)) (fun _ i => na - (intOf i).toNat)
                            case atStart => exact ⟨0, Nat.zero_le _, rfl, rfl⟩
                            case round =>
                              obtain ⟨j, hj, rfl, rfl⟩ := hrel
                              have hj0 : (0 : Int) ≤ (j : Int) := by omega
                              by_cases hjl : j < na
                              · have hji : (j : Int) < (na : Int) := by omega
                                have hst := isIn_snoc (acc.take j) (nxOf acc j) lft.data.toList
                                rw [← take_nx (by rw [HNA.out]; exact hjl)] at hst
                                obtain ⟨b3, o3, e3, hb3, r0, r1⟩ := (OwnNts.at_ HNT2.out).2 j hjl
                                subst e3
                                obtain ⟨s2, hs2⟩ : ∃ s2, (nxOf acc j).1 = s2 := ⟨_, rfl⟩
                                rw [hs2] at r0 hst
                                obtain ⟨q, hq⟩ : ∃ q, isIn (acc.take j) lft.data.toList = q := ⟨_, rfl⟩
                                rw [hq] at hst ⊢
                                have HST := Lib.hid hst
                                clear hst hq hs2 r1
                                cases q with
                                | true =>
                                  go_wp2_with fail
                                  go_round
                                  case rel => exact ⟨j + 1, by omega, by go_num, by rw [HST.out]; rfl⟩
                                  case measure => simp [intOf]; omega
                                | false =>
                                  by_cases heq : s2.data.toList = lft.data.toList
                                  · have hq9 : (s2.toList == lft.toList) = true := by rw [ByteArray.toList_eq, ByteArray.toList_eq, heq]; simp
                                    have HEQ := Lib.hid heq
                                    clear heq
                                    go_wp2_with fail
                                    go_round
                                    case rel => exact ⟨j + 1, by omega, by go_num, by rw [HST.out, decide_eq_true HEQ.out]; rfl⟩
                                    case measure => simp [intOf]; omega
                                  · have hq9 : (s2.toList == lft.toList) = false := by rw [ByteArray.toList_eq, ByteArray.toList_eq]; simpa using heq
                                    have HEQ := Lib.hid heq
                                    clear heq
                                    go_wp2_with fail
                                    go_round
                                    case rel => exact ⟨j + 1, by omega, by go_num, by rw [HST.out, decide_eq_false HEQ.out]; rfl⟩
                                    case measure => simp [intOf]; omega
                              · obtain rfl : j = na := by omega
                                have hji : ¬ (j : Int) < (j : Int) := by omega
                                rw [List.take_of_length_le (by rw [HNA.out]; exact Nat.le_refl _)]
                                obtain ⟨q, hq⟩ : ∃ q, isIn acc lft.data.toList = q := ⟨_, rfl⟩
                                have HQ := Lib.hid hq
                                rw [hq]
                                clear hq
                                cases q with
                                | true =>
                                  have HV : Hid (Z = fbErr (elOf ps k) 10) := by
                                    show _ = _
                                    rw [HZ4.out, drop_ck HKL.out, HCK9.out, fbR_none]
                                    rw [stepS_mid, if_pos HNOTE.out]
                                    unfold noteR
                                    rw [show (nk, dk).2 = dk from rfl, HC2.out, if_pos (.inr (.inr (.inr HQ.out)))]
                                    rfl
                                  have p9 := (HB2.out.cell (p := ⟨gp, k, none⟩) hgp).trans (HPP.out (k) (by omega))
                                  have HR5 := Lib.hid ((HB2.out.block gr hgr9).trans HR1.out)
                                  have HBW := Lib.hid (HB1.out.trans (HB2.out.mono hs1))
                                  obtain ⟨x0, x1, f0, f1⟩ := cells2 HR5.out
                                  go_wp2_with fail
                                  go_region
                                  go_wp2_with fail
                                  have HS9 := two_set w2 gr _ _ (.int .i64 0) (.slice none 0 0) x0 x1
                                  refine fin_snd4 rfl rfl rfl HS9.1 HS9.2 ?_
                                  rw [HV.out]
                                  exact OutFB.err (set2_below HBW.out hgrw).drew
                                | false =>
                                  have HZ5 : Hid (Z = fbR b.length ps (k + 1) (.mid v4 v6 v8 v9 (acc ++ [(lft, rgt)])) (l.drop (k + 1))) := by
                                    show _ = _
                                    rw [HZ4.out, drop_ck HKL.out, HCK9.out]
                                    refine fbR_some ?_
                                    rw [stepS_mid, if_pos HNOTE.out]
                                    unfold noteR
                                    rw [show (nk, dk).2 = dk from rfl, HC2.out, if_neg (by rw [HNS.out, HNA.out, HQ.out]; simp [H50.out]), strB_of, strB_of]
                                    rfl
                                  have hs2 := HB2.out.size
                                  go_wp2_with (with_reducible refine wpList_push_note rfl (.tmp 169) (.tmp 173) rfl w1.heap.size A6 j c6 acc lft rgt w2.heap.size rfl rfl rfl HNT2.out (by omega) hs2 ?_; intro g8 cap8 w8 ho8 hb8 hg8)
                                  have HO8 := Lib.hid ho8
                                  have HB8 := Lib.hid (HB2.out.trans hb8)
                                  clear ho8 hb8 hg8
                                  go_roundw
                                  case rel => exact ⟨k + 1, j + 1, acc ++ [(lft, rgt)], _, cap8, by omega, by omega, by go_num, rfl, (by have := H50.out; omega), (by show _ = _; simp [HNA.out]), HO8, HZ5, HB8⟩
                                  case measure => simp [intOf]; omega
                · skip
                  have e2 : ((strB nk).toList == [110, 111, 116, 101]) = false := by rw [ByteArray.toList_eq, strB_data]; simpa using hnote
                  have HNN : Hid ((nk, dk).1 ≠ [110, 111, 116, 101]) := hnote
                  have hwN : w1.heap.size ≤ wk.heap.size := hsk
                  by_cases hdata : nk = [100, 97, 116, 97]
                  · have e3 : ((strB nk).toList != [100, 97, 116, 97]) = false := by rw [ByteArray.toList_eq, strB_data, hdata]; rfl
                    have e3' : (strB nk).toList = [100, 97, 116, 97] := by rw [ByteArray.toList_eq, strB_data, hdata]
                    have HDT : Hid ((nk, dk).1 = [100, 97, 116, 97]) := hdata
                    clear hnote hdata
                    obtain ⟨P, hP⟩ : ∃ P, v9 * v6 = P := ⟨_, rfl⟩
                    have HPI : Hid ((v9 : Int) * (v6 : Int) = (P : Int)) := by show _ = _; rw [← hP]; push_cast; rfl
                    have hPle : P ≤ 100000 * 16 := by rw [← hP]; exact Nat.mul_le_mul hm hT2
                    have HPP2 := Lib.hid hP
                    clear hP
                    have hpA : (0 : Int) ≤ (v9 : Int) * (v6 : Int) := by rw [HPI.out]; omega
                    have hpB : (v9 : Int) * (v6 : Int) ≤ 1600000 := by rw [HPI.out]; omega
                    by_cases hlen9 : nl = P * 2
                    · have hcmp : ((nl : Int) != (v9 : Int) * (v6 : Int) * 16 / 8) = false := by rw [HPI.out]; simp; omega
                      have HST : Hid (stepS (.mid v4 v6 v8 v9 acc) (nk, dk) = some (.fin v4 v8 v9 (fillR v8 v6 v9 dk) acc)) := by
                        show _ = _
                        rw [stepS_mid, if_neg HNN.out, if_pos ⟨HDT.out, by rw [show (nk, dk).2 = dk from rfl, HNLK.out, HE8.out, hlen9, ← HPP2.out, Nat.mul_comm v9 v6, Nat.mul_comm (v6 * v9), ← Nat.mul_assoc]⟩]
                      have HLN9 := Lib.hid hlen9
                      clear hlen9
                      by_cases hlast : k + 1 < L
                      · have hli : (k : Int) + 1 < (L : Int) := by omega
                        have HV : Hid (Z = fbErr (elOf ps (k + 1)) 10) := by
                          show _ = _
                          rw [HZ4.out, drop_ck HKL.out, HCK9.out, fbR_some HST.out, drop_ck (by rw [HLN.out]; exact hlast), fbR_none rfl]
                        go_upto_region 30 with fail
                        clear hcmp
                        have p9 := (hb.out.cell (p := ⟨gp, k + 1, none⟩) hgp).trans (HPP.out (k + 1) (by omega))
                        have HR5 := Lib.hid ((hb.out.block gr hgr9).trans HR1.out)
                        have HBW := Lib.hid (HB1.out.trans (hb.out.mono hs1))
                        obtain ⟨x0, x1, f0, f1⟩ := cells2 HR5.out
                        go_wp2_with fail
                        go_region
                        go_wp2_with fail
                        have HS9 := two_set wk gr _ _ (.int .i64 0) (.slice none 0 0) x0 x1
                        refine fin_snd4 rfl rfl rfl HS9.1 HS9.2 ?_
                        rw [HV.out]
                        exact OutFB.err (set2_below HBW.out hgrw).drew
                      · have hli : ¬ (k : Int) + 1 < (L : Int) := by omega
                        have HV : Hid (Z = ((((v4 : Int), fillR v8 v6 v9 dk), acc), 0, 0)) := by
                          show _ = _
                          rw [HZ4.out, drop_ck HKL.out, HCK9.out, fbR_some HST.out, List.drop_of_length_le (by rw [HLN.out]; omega)]
                          rfl
                        rw [HE8.out] at HV
                        go_upto_region 31 with fail
                        clear hcmp
                        go_wp2_with fail
                        refine (REMPTY_any v4 v6 v9 (by omega) (by omega) _).mono ?_
                        rintro e w5 ⟨ve, rfl, ho, hb5⟩
                        have HB5 := Lib.hid (hb.out.trans (hb5.mono hsk))
                        have HNT5 : Hid (OwnNts w5 w1.heap.size (.slice A6 na c6) acc) := OwnNts.below HNT.out hb5
                        have hsw5 := hb5.size
                        obtain ⟨rows, hLr⟩ := ho
                        have hLz := hLr.outer
                        rw [zeroS_length] at hLz
                        obtain ⟨gv, cV, rfl, hgv, _, hcV1, hcV2, _⟩ := own_slot hLz (by omega)
                        have HLR := Lib.hid (hLr.base hsk)
                        clear hb5 hLr hLz
                        go_upto_region 32 with fail
                        obtain ⟨Y5, gs, hY5, hgs, HY5, HBY5, HSY5⟩ := one_box w5 (.cells #[.int .i64 v4, .slice (some ⟨gv, 0, none⟩) v6 cV] 24)
                        rw [← hgs, ← hY5]
                        have HFI : Hid (FillI w1.heap.size w1 gs (.int .i64 v4) gv v6 cV rows Y5 (zeroS v6 v9)) := ⟨HB5.out.trans (HBY5.out.mono HB5.out.size), HY5.out, HLR.out.below HBY5.out, by rw [hgs]; exact HB5.out.size⟩
                        have HNTY : Hid (OwnNts Y5 w1.heap.size (.slice A6 na c6) acc) := OwnNts.below HNT5.out HBY5.out
                        clear hY5 hgs HSY5 HBY5 HY5 HNT5
                        have HYl : Hid ((fillR 16 v6 v9 dk).length = v6) := fillR_length _ _ _ _
                        go_wp2_with fail
                        go_loopw [23] (fun i wr => ∃ i9 : Nat, i9 ≤ v9 ∧ i = .int .i64 i9 ∧ Hid (OwnNts wr w1.heap.size (.slice A6 na c6) acc) ∧ Hid (∃ zss, PartOf (fillR 16 v6 v9 dk) zss v9 (fun _ i => i < i9) ∧ FillI w1.heap.size w1 gs (.int .i64 v4) gv v6 cV rows wr zss)) (fun i _ => v9 - (intOf i).toNat)
                        case atStart => exact ⟨0, Nat.zero_le _, rfl, HNTY, ⟨zeroS v6 v9, (by have := PartOf.start (fillR 16 v6 v9 dk) v9 (done := fun _ i => i < 0) (fun a i _ _ h => by omega); rw [HYl.out] at this; exact this), HFI.out⟩⟩
                        case round =>
                          clear HNTY HFI
                          obtain ⟨wi, rfl⟩ : ∃ x : World, x = wr := ⟨_, rfl⟩
                          obtain ⟨i9, hi9, rfl, HNI, hZ⟩ := hrel
                          have hi0 : (0 : Int) ≤ (i9 : Int) := by omega
                          by_cases hil : i9 < v9
                          · have hii : (i9 : Int) < (v9 : Int) := by omega
                            go_wp2_with fail
                            go_loopw [24] (fun i wr => ∃ t9 : Nat, t9 ≤ v6 ∧ i = .int .i64 t9 ∧ Hid (OwnNts wr w1.heap.size (.slice A6 na c6) acc) ∧ Hid (∃ zss, PartOf (fillR 16 v6 v9 dk) zss v9 (fun t i => i < i9 ∨ (i = i9 ∧ t < t9)) ∧ FillI w1.heap.size w1 gs (.int .i64 v4) gv v6 cV rows wr zss)) (fun i _ => v6 - (intOf i).toNat)
                            case atStart => exact ⟨0, Nat.zero_le _, rfl, HNI, (by obtain ⟨zss, hP, hF⟩ := hZ.out; exact ⟨zss, hP.weaken (fun a i _ _ h => by omega), hF⟩)⟩
                            case round =>
                              clear hZ HNI
                              obtain ⟨wt, rfl⟩ : ∃ x : World, x = wr := ⟨_, rfl⟩
                              obtain ⟨t9, ht9, rfl, HNI, hZ⟩ := hrel
                              have ht0 : (0 : Int) ≤ (t9 : Int) := by omega
                              obtain ⟨zss, hP0, hF0⟩ := hZ.out
                              have HPt := Lib.hid hP0
                              have HFt := Lib.hid hF0
                              clear hP0 hF0 hZ
                              by_cases htl : t9 < v6
                              · have hti : (t9 : Int) < (v6 : Int) := by omega
                                have hF3 : (i9 * v6 + t9) * 2 + 2 ≤ nl := by
                                  have h1 := pos_le (k := 2) hil htl
                                  rw [HPP2.out, ← HLN9.out] at h1
                                  exact h1
                                have hq1 : i9 * v6 ≤ 100000 * 16 := Nat.mul_le_mul (by omega) hT2
                                have hqI : (i9 : Int) * (v6 : Int) = ((i9 * v6 : Nat) : Int) := by push_cast; rfl
                                have HPQ : Hid (i9 * v6 + t9 = i9 * v6 + t9) := rfl
                                obtain ⟨F, hF9⟩ : ∃ F, (i9 * v6 + t9) * 2 = F := ⟨_, rfl⟩
                                have HF9 := Lib.hid hF9
                                have hFI3 : ((i9 : Int) * (v6 : Int) + (t9 : Int)) * 16 / 8 = (F : Int) := by rw [hqI]; omega
                                have hqA : (0 : Int) ≤ (i9 : Int) * (v6 : Int) := by rw [hqI]; omega
                                have hqB : (i9 : Int) * (v6 : Int) ≤ 1600000 := by rw [hqI]; omega
                                rw [hF9] at hF3
                                clear hqI hF9 hq1
                                go_upto_region 39 with fail
                                rw [hFI3]
                                clear hFI3 hqA hqB
                                have p1'' : wt.cell? ⟨b', o' + k * 2 + 1, none⟩ = some (.slice A' nl c') := (HFt.out.below.cell (p := ⟨b', o' + k * 2 + 1, none⟩) hbB2).trans HP1.out
                                have HSA : ∀ W, (Instr.slice 26 (.slice A' nl c') (some (.int .i64 (F : Int))) (some (.int .i64 ((F : Int) + 2))) none).run Tryd.prog W = .ok (.slice (cutA A' c' F) 2 (c' - F)) W :=
                                  fun W => by
                                    have h := run_cut_at (A := A') (n := nl) (c := c') (at_ := F) (p := 0) (q := 2) (x := (F : Int)) (y := (F : Int) + 2) (by omega) (by omega) (by omega) W
                                    rwa [Nat.add_zero] at h
                                have HGA := Lib.hid (HQ3.out.cut (c := c') q1 (p := F) (q := F + 2) (by omega) hF3)
                                rw [Nat.add_sub_cancel_left] at HGA
                                have hvl := numB_lt (cutB dk F (F + 2))
                                rw [cutB_length (by omega) (by rw [HNLK.out]; exact hF3), Nat.add_sub_cancel_left] at hvl
                                simp only [Nat.reducePow] at hvl
                                obtain ⟨v, hv9⟩ : ∃ v, numB (cutB dk F (F + 2)) = v := ⟨_, rfl⟩
                                have HVV := Lib.hid hv9
                                rw [hv9] at hvl
                                clear hv9
                                obtain ⟨bz, cap, hrk, hcap1, hcap2, -, -, -⟩ := HFt.out.slot (k := t9) (by rw [HPt.out.len, HYl.out]; exact htl) (HPt.out.rows t9 (by rw [HYl.out]; exact htl)) (by omega)
                                have HRK := Lib.hid hrk
                                obtain ⟨y1, y2⟩ := HFt.out.cells hrk
                                have hfz := (HFt.out.elem hrk hil).2
                                obtain ⟨vo, hvo⟩ := (HFt.out.elem hrk hil).1
                                have hsT := HFt.out.below.size
                                clear hrk
                                go_wp2_with fail
                                refine (RNUMBER_any (cutA A' c' F) 2 (c' - F) (cutB dk F (F + 2)) (by omega) _ w1.heap.size hsT (HGA.out.below HFt.out.below (Nat.le_refl _))).mono ?_
                                rw [HVV.out]
                                rintro e w7 ⟨rfl, rfl⟩
                                have HNX : Hid (∀ Y : Int, Y = smpV 16 v → ∃ zss, PartOf (fillR 16 v6 v9 dk) zss v9 (fun t i => i < i9 ∨ (i = i9 ∧ t < t9 + 1)) ∧ FillI w1.heap.size w1 gs (.int .i64 v4) gv v6 cV rows (wt.setCell ⟨bz, i9, none⟩ (.int .i64 Y)).drew zss) := fun Y hY => by
                                  refine ⟨_, HPt.out.set_ (k := t9) (j := i9) (y := Y) (by rw [HYl.out]; exact htl) hil ?_ (fun a i _ _ h => by omega), (HFt.out.set_ HRK.out i9 Y).drew⟩
                                  rw [fillR_el dk htl hil]
                                  unfold smpR
                                  rw [show 16 / 8 = 2 from rfl, HF9.out, HVV.out, hY]
                                have HNN9 : Hid (∀ Y : Value, OwnNts (wt.setCell ⟨bz, i9, none⟩ Y).drew w1.heap.size (.slice A6 na c6) acc) := fun Y => OwnNts.below (nts_set HNI.out (HFt.out.own.inner t9 _ HRK.out) (by rw [HPt.out.rows t9 (by rw [HYl.out]; exact htl)]; omega) i9 Y) (Below.refl _ _).drew
                                clear p1'' HSA
                                by_cases hv : 32768 ≤ v
                                · have hvi : (32768 : Int) ≤ (v : Int) := by omega
                                  have HVN := Lib.hid hv
                                  go_wp2_with fail
                                  go_region
                                  go_wp2_with fail
                                  go_roundw
                                  case rel => exact ⟨t9 + 1, by omega, by go_num, HNN9.out _, HNX.out _ (by unfold smpV; simp only [Nat.reducePow, Nat.reduceSub, Int.reducePow]; rw [if_pos HVN.out]; try omega)⟩
                                  case measure => simp [intOf]; omega
                                · have hvi : (v : Int) < 32768 := by omega
                                  have hvd : decide ((32768 : Int) ≤ (v : Int)) = false := by simp; omega
                                  have HVN := Lib.hid hv
                                  clear hv
                                  go_wp2_with fail
                                  go_region
                                  go_wp2_with fail
                                  go_roundw
                                  case rel => exact ⟨t9 + 1, by omega, by go_num, HNN9.out _, HNX.out _ (by unfold smpV; simp only [Nat.reducePow, Nat.reduceSub, Int.reducePow]; rw [if_neg HVN.out]; try omega)⟩
                                  case measure => simp [intOf]; omega
                              · have hti : ¬ (t9 : Int) < (v6 : Int) := by omega
                                have HZN : Hid (∃ zss, PartOf (fillR 16 v6 v9 dk) zss v9 (fun _ i => i < i9 + 1) ∧ FillI w1.heap.size w1 gs (.int .i64 v4) gv v6 cV rows wt zss) := ⟨zss, HPt.out.weaken (fun a i ha _ h => by rw [HYl.out] at ha; omega), HFt.out⟩
                                go_wp2_with fail
                                go_roundw
                                case rel => exact ⟨i9 + 1, by omega, by go_num, HNI, HZN⟩
                                case measure => simp [intOf]; omega
                          · have hii : ¬ (i9 : Int) < (v9 : Int) := by omega
                            obtain ⟨zss, hP, hFz⟩ := hZ.out
                            have hzy : zss = fillR 16 v6 v9 dk := hP.all (fun a ha => by rw [HYl.out] at ha; rw [fillR_row dk ha]; simp) (fun a i _ hi => by omega)
                            subst hzy
                            have HFZ := Lib.hid hFz
                            clear hP hFz hZ
                            obtain ⟨z0, z1, _, _⟩ := cells2 HFZ.out.box
                            have HR5 := Lib.hid ((HFZ.out.below.block gr hgr9).trans HR1.out)
                            obtain ⟨x0, x1, f0, f1⟩ := cells2 HR5.out
                            have HBW := Lib.hid (HB1.out.trans (HFZ.out.below.mono hs1))
                            have hgsN := HFZ.out.ge
                            have hne1 : ¬ gs = gr := by omega
                            have hne2 : ¬ gr = gs := by omega
                            go_wp2_with fail
                            have HS9 := two_set wi gr _ _ (.int .i64 v4) (.slice (some ⟨gv, 0, none⟩) v6 cV) x0 x1
                            refine fin_snd4 rfl rfl rfl HS9.1 HS9.2 ?_
                            rw [HV.out]
                            refine ⟨_, _, rfl, ?_, ?_, set2_below HBW.out hgrw⟩
                            · have h9 := HFZ.out.own
                              exact ⟨rows, ((h9.set_below (p := ⟨gr, 0, none⟩) hgr9 _).set_below (p := ⟨gr, 1, none⟩) hgr9 _).base hs1⟩
                            · have h1 : ((wi.setCell ⟨gr, 0, none⟩ (.int .i64 v4)).setCell ⟨gr, 1, none⟩ (.slice (some ⟨gv, 0, none⟩) v6 cV)).ownsRow w1.heap.size 36 2 (.slice A6 na c6) acc.length (nxsC acc) :=
                                own_far (p := ⟨gr, 1, none⟩) (own_far (p := ⟨gr, 0, none⟩) (show wi.ownsRow w1.heap.size 36 2 (.slice A6 na c6) acc.length (nxsC acc) from HNI.out) (.inr (fun e => by have := (own_lt HNI.out e).1; dsimp only at this; omega)) _) (.inr (fun e => by have := (own_lt HNI.out e).1; dsimp only at this; omega)) _
                              exact OwnNts.lower h1 hs1
                    · have hcmp : ((nl : Int) != (v9 : Int) * (v6 : Int) * 16 / 8) = true := by rw [HPI.out]; simp; omega
                      have HV : Hid (Z = fbErr (elOf ps k) 10) := by
                        show _ = _
                        rw [HZ4.out, drop_ck HKL.out, HCK9.out, fbR_none]
                        rw [stepS_mid, if_neg HNN.out, if_neg (fun h => hlen9 (by
                          have h2 : dk.length = v8 / 8 * v6 * v9 := h.2
                          rw [HNLK.out, HE8.out] at h2
                          rw [h2, ← HPP2.out, Nat.mul_comm v9 v6, Nat.mul_comm (v6 * v9), ← Nat.mul_assoc]))]
                      clear hlen9
                      go_upto_region 28 with fail
                      clear hcmp
                      have p9 := (hb.out.cell (p := ⟨gp, k, none⟩) hgp).trans (HPP.out (k) (by omega))
                      have HR5 := Lib.hid ((hb.out.block gr hgr9).trans HR1.out)
                      have HBW := Lib.hid (HB1.out.trans (hb.out.mono hs1))
                      obtain ⟨x0, x1, f0, f1⟩ := cells2 HR5.out
                      go_wp2_with fail
                      go_region
                      go_wp2_with fail
                      have HS9 := two_set wk gr _ _ (.int .i64 0) (.slice none 0 0) x0 x1
                      refine fin_snd4 rfl rfl rfl HS9.1 HS9.2 ?_
                      rw [HV.out]
                      exact OutFB.err (set2_below HBW.out hgrw).drew
                  · have e3 : ((strB nk).toList != [100, 97, 116, 97]) = true := by rw [ByteArray.toList_eq, strB_data]; simpa using hdata
                    have e3' : ¬ (strB nk).toList = [100, 97, 116, 97] := by rw [ByteArray.toList_eq, strB_data]; exact hdata
                    have HV : Hid (Z = fbErr (elOf ps k) 10) := by
                      show _ = _
                      rw [HZ4.out, drop_ck HKL.out, HCK9.out, fbR_none]
                      rw [stepS_mid, if_neg HNN.out, if_neg (fun h => hdata h.1)]
                    clear hnote hdata
                    have p9 := (hb.out.cell (p := ⟨gp, k, none⟩) hgp).trans (HPP.out (k) (by omega))
                    have HR5 := Lib.hid ((hb.out.block gr hgr9).trans HR1.out)
                    have HBW := Lib.hid (HB1.out.trans (hb.out.mono hs1))
                    obtain ⟨x0, x1, f0, f1⟩ := cells2 HR5.out
                    go_wp2_with fail
                    go_region
                    go_wp2_with fail
                    have HS9 := two_set wk gr _ _ (.int .i64 0) (.slice none 0 0) x0 x1
                    refine fin_snd4 rfl rfl rfl HS9.1 HS9.2 ?_
                    rw [HV.out]
                    exact OutFB.err (set2_below HBW.out hgrw).drew
              · obtain rfl : k = L := by omega
                have hki : ¬ (k : Int) < (k : Int) := by omega
                have hke : ((k : Int) == (k : Int)) = true := by simp
                have HV : Hid (Z = fbErr n 10) := by
                  show _ = _
                  rw [HZ4.out, List.drop_of_length_le (by rw [HLN.out]; exact Nat.le_refl _), ← hlb.out]
                  rfl
                have HRk := Lib.hid ((hb.out.block gr hgr9).trans HR1.out)
                obtain ⟨x0, x1, f0, f1⟩ := cells2 HRk.out
                go_wp2_with fail
                have HS9 := two_set wk gr _ _ (.int .i64 0) (.slice none 0 0) x0 x1
                refine fin_snd4 rfl rfl rfl HS9.1 HS9.2 ?_
                rw [HV.out]
                exact OutFB.err (set2_below HBk.out hgrw)
          · have hb8 := b2
            have HF0 := HF
            exfalso
            have h := HSEL.out
            rw [HP.out] at h
            dsimp only at h
            rw [HCD.out] at h
            dsimp only at h
            rw [HF.out, hG] at h
            first
              | (revert h; simp; done)
              | (have h2 := h.2
                 unfold nAt at h2
                 rw [HV8.out] at h2
                 rw [h2] at hb8
                 revert hb8
                 decide)
        · have h12i : ((nd : Int) != 12) = true := by simp; omega
          have HV : Hid (Z = fbErr (elOf ps 0) 10) := by
            show _ = _
            rw [HZ2.out, drop_ck0 HL0.out, HCD.out, fbR_none]
            rw [stepS_start, if_neg (fun h => by have h2 := (formOk_in (show formOk d = true from h.2)).1; rw [HND.out] at h2; exact h12 h2)]
          clear h12
          have p9 := (HRF.out.cell (p := ⟨gp, 0, none⟩) hgp).trans (HPP.out (0) (by omega))
          have HR5 := Lib.hid ((HRF.out.block gr hgr9).trans HR1.out)
          have HBW := Lib.hid (HB1.out.trans (HRF.out.mono hs1))
          obtain ⟨x0, x1, f0, f1⟩ := cells2 HR5.out
          go_wp2_with fail
          go_region
          go_wp2_with fail
          have HS9 := two_set w1 gr _ _ (.int .i64 0) (.slice none 0 0) x0 x1
          refine fin_snd4 rfl rfl rfl HS9.1 HS9.2 ?_
          rw [HV.out]
          exact OutFB.err (set2_below HBW.out hgrw).drew
      · have e1 : ((strB nm).toList != [102, 111, 114, 109]) = true := by
          rw [ByteArray.toList_eq, strB_data]; simpa using hnm
        have e1' : ¬ (strB nm).toList = [102, 111, 114, 109] := by rw [ByteArray.toList_eq, strB_data]; exact hnm
        have HV : Hid (Z = fbErr (elOf ps 0) 10) := by
          show _ = _
          rw [HZ2.out, drop_ck0 HL0.out, HCD.out, fbR_none]
          rw [stepS_start, if_neg (fun h => hnm h.1)]
        clear hnm
        have p9 := (HRF.out.cell (p := ⟨gp, 0, none⟩) hgp).trans (HPP.out (0) (by omega))
        have HR5 := Lib.hid ((HRF.out.block gr hgr9).trans HR1.out)
        have HBW := Lib.hid (HB1.out.trans (HRF.out.mono hs1))
        obtain ⟨x0, x1, f0, f1⟩ := cells2 HR5.out
        go_wp2_with fail
        go_region
        go_wp2_with fail
        have HS9 := two_set w1 gr _ _ (.int .i64 0) (.slice none 0 0) x0 x1
        refine fin_snd4 rfl rfl rfl HS9.1 HS9.2 ?_
        rw [HV.out]
        exact OutFB.err (set2_below HBW.out hgrw).drew
  · have hfi : (f != 0) = true := by simpa using hf
    have HV : Hid (Z = fbErr at_ f) := by
      show _ = _
      rw [← HZ.out]
      unfold fbS
      rw [HP.out, if_pos hf]
    clear hf
    go_wp2_with fail
    have HS9 := two_set w1 gr _ _ (.int .i64 0) (.slice none 0 0) x0 x1
    refine fin_snd4 rfl rfl rfl HS9.1 HS9.2 ?_
    rw [HV.out]
    exact OutFB.err (set2_below HB1.out hgrw)
end Go.Proofs.YtlnjildkdmeflaaDoor
