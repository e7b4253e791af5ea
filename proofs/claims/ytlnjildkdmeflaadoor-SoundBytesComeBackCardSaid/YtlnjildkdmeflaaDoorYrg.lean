/- FromBytes, of the document: no form. -/
import Derived.Test.YtlnjildkdmeflaaDoorYfb
import Derived.Test.YtlnjildkdmeflaaDoorPlaced2
import Derived.Test.YtlnjildkdmeflaaDoorWc
import Derived.Test.YtlnjildkdmeflaaDoorWa
set_option linter.unusedSimpArgs false
set_option linter.unusedVariables false
namespace Go.Proofs.YtlnjildkdmeflaaDoor
open Go.RowKit Go.Dw
theorem drop_ck0 {l : List Ck} (h : 0 < l.length) : l = ckOf l 0 :: l.drop 1 := by
  have := drop_ck (l := l) (k := 0) h
  rwa [List.drop_zero] at this
theorem nts_set {w : World} {B B' b m n cap : Nat} {u : Value} {l : List Nx} {xs : List Value} (h : OwnNts w B u l) (hin : w.ownsRow B' 3 1 (.slice (some ⟨b, 0, none⟩) m cap) n xs) (h0 : 0 < n) (j : Nat) (v : Value) : OwnNts (w.setCell ⟨b, j, none⟩ v) B u l := by
  rcases hin.2 with ⟨_, h1⟩ | ⟨g, cap', cur, e, _, hhp, _⟩
  · omega
  · injection e with e _ _
    injection e with e
    injection e with e _ _
    subst e
    exact own_far (p := ⟨b, j, none⟩) h (.inr (own_ne_blk h hhp (by decide))) _
set_option maxRecDepth 100000 in
set_option maxHeartbeats 16000000 in
theorem RFROMBYTES_bad (A0 : Option Addr) (n c0 : Nat) (b : By) (hc0 : n ≤ c0 ∧ c0 ≤ maxLen) (w : World) (B : Nat) (hB : B ≤ w.heap.size) (hh : Hid (BysAt w B A0 n b)) (m9 : Int) (hmN : 0 < w.heap.size) (hm9 : Hid (w.cell? ⟨0, 0, none⟩ = some (.int .i64 m9))) (HSEL : Hid (formOk (ckOf (placedS b).1.1 0).2 = false)) :
    Calls Tryd.prog 8 #[.slice A0 n c0] w (OutFB w (fbS b)) := by
  have hlb := Lib.hid hh.out.1
  obtain ⟨Z, hZ⟩ : ∃ Z, fbS b = Z := ⟨_, rfl⟩
  have HZ := Lib.hid hZ
  rw [hZ]
  clear hZ
  go_enter Tryd.func8, Tryd.ntmps8
  go_upto_region 1 with (fail)
  obtain ⟨Y, gr, hY, hgr, HY, HBY, HSY⟩ := one_box w (.cells #[.int .i64 0, .slice none 0 0] 24)
  rw [← hgr, ← hY]
  have HGR := Lib.hid hgr
  have hsY := HBY.out.size
  clear hY hgr
  go_wp2_with fail
  refine (RPLACED_any A0 n c0 b hc0 _ B (Nat.le_trans hB hsY) (hh.out.below (HBY.out.mono hB) (Nat.le_refl _))).mono ?_
  obtain ⟨⟨⟨l, ps⟩, at_, f⟩, hP⟩ : ∃ P, placedS b = P := ⟨_, rfl⟩
  have HP := Lib.hid hP
  have HPL := Lib.hid (placed_len b)
  rw [hP] at HPL ⊢
  clear hP
  rintro e w1 ⟨v, u, rfl, hck, hps, hb1⟩
  dsimp only at hck hps HPL ⊢
  have HB1 := Lib.hid (HBY.out.trans (hb1.mono hsY))
  have HR1 := Lib.hid ((hb1.block gr (blk_lt HY.out)).trans HY.out)
  have hs1 := HB1.out.size
  have hgrY := blk_lt HY.out
  clear hb1 HY
  obtain ⟨A1, c1, rfl, hc11, hc12⟩ := hck.form
  obtain ⟨A2, c2, rfl, hc21, hc22⟩ := own_form hps
  have HCK := Lib.hid hck.at_
  have HPS := Lib.hid hps
  clear hck hps
  obtain ⟨L, hL⟩ : ∃ L, l.length = L := ⟨_, rfl⟩
  have HLN := Lib.hid hL
  have hLp : ps.length = L := HPL.out.symm.trans hL
  have HLP := Lib.hid hLp
  rw [hL] at HCK hc11 ⊢
  rw [hLp] at HPS hc21 ⊢
  clear hL hLp
  have hgr9 := blk_lt HR1.out
  have hgrw : w.heap.size ≤ gr := by rw [HGR.out]; exact Nat.le_refl _
  obtain ⟨x0, x1, f0, f1⟩ := cells2 HR1.out
  by_cases hf : f = 0
  · subst hf
    obtain ⟨_, _, h1000, hsm⟩ := placed_back HP.out
    have HSM := Lib.hid hsm
    have hL9 : L ≤ 1000 := by rw [← HLN.out]; exact h1000
    have HZ2 : Hid (Z = fbR b.length ps 0 .start l) := by
      show _ = _
      rw [← HZ.out]
      unfold fbS
      rw [HP.out]
      rfl
    clear hsm h1000 HZ
    by_cases hL0 : L = 0
    · subst hL0
      have HV : Hid (Z = fbErr n 10) := by
        show _ = _
        rw [HZ2.out, List.eq_nil_of_length_eq_zero HLN.out, ← hlb.out]
        rfl
      go_wp2_with fail
      have HS9 := two_set w1 gr _ _ (.int .i64 0) (.slice none 0 0) x0 x1
      refine fin_snd4 rfl rfl rfl HS9.1 HS9.2 ?_
      rw [HV.out]
      exact OutFB.err (set2_below HB1.out hgrw)
    · have hLi : ((L : Int) == 0) = false := by simp; omega
      have hL0' : 0 < L := by omega
      have HL0 : Hid (0 < l.length) := by show _ < _; rw [HLN.out]; exact hL0'
      clear hL0 x0 x1 f0 f1
      obtain ⟨b', o', e', hbB', p0, A, c, p1, hcc1, hcc2, q3⟩ := HCK.out.2 0 hL0'
      subst e'
      obtain ⟨gp, cp, e9, hgpY, hgp, _, _, hh9⟩ := own_slot HPS.out hL0'
      injection e9 with e9 _ _
      subst e9
      have HPP : Hid (∀ j, j < L → w1.cell? ⟨gp, j, none⟩ = some (.int .i64 (elOf ps j))) := fun j hj => by
        refine (hh9 j hj).1.trans ?_
        have hkp : j < ps.length := by rw [HLP.out]; exact hj
        simp [elOf, List.getD, List.getElem?_eq_getElem hkp]
      have hne1 : ¬ gp = gr := by omega
      have hne2 : ¬ gr = gp := by omega
      clear hh9
      have hdl : ((l.getD 0 ([], [])).2).length ≤ 8000000 := HSM.out _ (by simp [List.getD, List.getElem?_eq_getElem HL0.out])
      obtain ⟨⟨nm, d⟩, hcd⟩ : ∃ x, l.getD 0 ([], []) = x := ⟨_, rfl⟩
      have HCD : Hid (ckOf l 0 = (nm, d)) := hcd
      rw [hcd] at p0 p1 hcc1 q3 hdl
      dsimp only at p0 p1 hcc1 q3 hdl
      have p0' : w1.cell? ⟨b', o', none⟩ = some (.string (strB nm)) := by have h := p0; rw [Nat.zero_mul, Nat.add_zero] at h; exact h
      have p1' : w1.cell? ⟨b', o' + 1, none⟩ = some (.slice A d.length c) := by have h := p1; rw [Nat.zero_mul, Nat.add_zero] at h; exact h
      have hD := Lib.hid q3
      clear p0 p1 q3 hcd
      have HRF : Hid (Below w1.heap.size w1 w1) := Below.refl _ _
      obtain ⟨nd, hnd⟩ : ∃ nd, d.length = nd := ⟨_, rfl⟩
      have HND := Lib.hid hnd
      rw [hnd] at hD hdl hcc1 p1'
      clear hnd
      by_cases hnm : nm = [102, 111, 114, 109]
      · have e1 : ((strB nm).toList != [102, 111, 114, 109]) = false := by
          rw [ByteArray.toList_eq, strB_data, hnm]; rfl
        have e1' : (strB nm).toList = [102, 111, 114, 109] := by rw [ByteArray.toList_eq, strB_data, hnm]
        have HNM := Lib.hid hnm
        clear hnm
        by_cases h12 : nd = 12
        · subst h12
          go_wp2_with fail
          have hlen := HND.out
          have hc : 12 ≤ c ∧ c ≤ maxLen := ⟨hcc1, hcc2⟩
          obtain ⟨N, hNe⟩ : ∃ N, w1.heap.size = N := ⟨_, rfl⟩
          have hN : N ≤ w1.heap.size := by omega
          have HD9 := hD
          rw [hNe] at hD
          clear hNe p0' p1' e1 e1'
          have hl := Lib.hid hD.out.1
          have hl12 := Lib.hid hlen
          have HS4 : ∀ W, (Instr.slice 26 (.slice A 12 c) none (some (.int .i64 4)) none).run Tryd.prog W = .ok (.slice (cutA A c 0) 4 c) W := fun W => run_cut_to A 12 c 4 (by omega) W
          have HS6 : ∀ W, (Instr.slice 26 (.slice A 12 c) (some (.int .i64 4)) (some (.int .i64 6)) none).run Tryd.prog W = .ok (.slice (cutA A c 4) 2 (c - 4)) W := fun W => run_cut_by A 12 c 4 6 (by omega) (by omega) W
          have HS8 : ∀ W, (Instr.slice 26 (.slice A 12 c) (some (.int .i64 6)) (some (.int .i64 8)) none).run Tryd.prog W = .ok (.slice (cutA A c 6) 2 (c - 6)) W := fun W => run_cut_by A 12 c 6 8 (by omega) (by omega) W
          have HS9 : ∀ W, (Instr.slice 26 (.slice A 12 c) (some (.int .i64 8)) none none).run Tryd.prog W = .ok (.slice (cutA A c 8) 4 (c - 8)) W := fun W => run_cut_from A 12 c 8 (by omega) (by omega) W
          have HG4 := Lib.hid (hD.out.cut hc.1 (p := 0) (q := 4) (by omega) (by omega))
          have HG6 := Lib.hid (hD.out.cut hc.1 (p := 4) (q := 6) (by omega) (by omega))
          have HG8 := Lib.hid (hD.out.cut hc.1 (p := 6) (q := 8) (by omega) (by omega))
          have HG9 := Lib.hid (hD.out.cut hc.1 (p := 8) (q := 12) (by omega) (by omega))
          have c4 := numB_lt (cutB d 0 4)
          have c6 := numB_lt (cutB d 4 6)
          have c8 := numB_lt (cutB d 6 8)
          have c9 := numB_lt (cutB d 8 12)
          rw [cutB_length (by omega) (by omega)] at c4 c6 c8 c9
          simp only [Nat.reduceSub, Nat.reducePow] at c4 c6 c8 c9
          simp only [Nat.reduceSub] at HG4 HG6 HG8 HG9
          obtain ⟨v4, hv4⟩ : ∃ v, numB (cutB d 0 4) = v := ⟨_, rfl⟩
          obtain ⟨v6, hv6⟩ : ∃ v, numB (cutB d 4 6) = v := ⟨_, rfl⟩
          obtain ⟨v8, hv8⟩ : ∃ v, numB (cutB d 6 8) = v := ⟨_, rfl⟩
          obtain ⟨v9, hv9⟩ : ∃ v, numB (cutB d 8 12) = v := ⟨_, rfl⟩
          rw [hv4] at c4
          rw [hv6] at c6
          rw [hv8] at c8
          rw [hv9] at c9
          have HV4 := Lib.hid hv4
          have HV6 := Lib.hid hv6
          have HV8 := Lib.hid hv8
          have HV9 := Lib.hid hv9
          clear hv4 hv6 hv8 hv9
          have HC4 : Hid (∀ k, Calls Tryd.prog 28 #[.slice (cutA A c 0) 4 c] (w1.drewN k) fun e w' => e = .returned (.int .i64 ((v4 : Nat) : Int)) ∧ ∃ m, w' = (w1.drewN k).drewN m) := fun k => by
            have h := RNUMBER_any (cutA A c 0) 4 c (cutB d 0 4) (by omega) (w1.drewN k) N (Nat.le_trans hN (belowN (Below.refl N w1) k).size) (HG4.out.below (belowN (Below.refl _ _) _) (Nat.le_refl _))
            rw [HV4.out] at h
            exact h.mono fun e w9 h => ⟨h.1, 0, h.2.symm⟩
          have HC6 : Hid (∀ k, Calls Tryd.prog 28 #[.slice (cutA A c 4) 2 (c - 4)] (w1.drewN k) fun e w' => e = .returned (.int .i64 ((v6 : Nat) : Int)) ∧ ∃ m, w' = (w1.drewN k).drewN m) := fun k => by
            have h := RNUMBER_any (cutA A c 4) 2 (c - 4) (cutB d 4 6) (by omega) (w1.drewN k) N (Nat.le_trans hN (belowN (Below.refl N w1) k).size) (HG6.out.below (belowN (Below.refl _ _) _) (Nat.le_refl _))
            rw [HV6.out] at h
            exact h.mono fun e w9 h => ⟨h.1, 0, h.2.symm⟩
          have HC8 : Hid (∀ k, Calls Tryd.prog 28 #[.slice (cutA A c 6) 2 (c - 6)] (w1.drewN k) fun e w' => e = .returned (.int .i64 ((v8 : Nat) : Int)) ∧ ∃ m, w' = (w1.drewN k).drewN m) := fun k => by
            have h := RNUMBER_any (cutA A c 6) 2 (c - 6) (cutB d 6 8) (by omega) (w1.drewN k) N (Nat.le_trans hN (belowN (Below.refl N w1) k).size) (HG8.out.below (belowN (Below.refl _ _) _) (Nat.le_refl _))
            rw [HV8.out] at h
            exact h.mono fun e w9 h => ⟨h.1, 0, h.2.symm⟩
          have HC9 : Hid (∀ k, Calls Tryd.prog 28 #[.slice (cutA A c 8) 4 (c - 8)] (w1.drewN k) fun e w' => e = .returned (.int .i64 ((v9 : Nat) : Int)) ∧ ∃ m, w' = (w1.drewN k).drewN m) := fun k => by
            have h := RNUMBER_any (cutA A c 8) 4 (c - 8) (cutB d 8 12) (by omega) (w1.drewN k) N (Nat.le_trans hN (belowN (Below.refl N w1) k).size) (HG9.out.below (belowN (Below.refl _ _) _) (Nat.le_refl _))
            rw [HV9.out] at h
            exact h.mono fun e w9 h => ⟨h.1, 0, h.2.symm⟩
          go_quiet ((first
            | (go_at_call 28; with_reducible exact Calls.quiet_of (HC4.out _))
            | (go_at_call 28; with_reducible exact Calls.quiet_of (HC6.out _))
            | (go_at_call 28; with_reducible exact Calls.quiet_of (HC8.out _))
            | (go_at_call 28; with_reducible exact Calls.quiet_of (HC9.out _))))
          clear HC4 HC6 HC8 HC9 HS4 HS6 HS8 HS9 HG4 HG6 HG8 HG9 hlen
          have HF : Hid (formOk d = formG v4 v6 v8 v9) := by
            show _ = _
            unfold formOk nAt
            rw [HV4.out, HV6.out, HV8.out, HV9.out, hl.out]
            rfl
          have HBN : Hid (Below w1.heap.size w1 (w1.drewN nq)) := belowN (Below.refl _ _) nq
          obtain ⟨W, hW⟩ : ∃ W, W = w1.drewN nq := ⟨_, rfl⟩
          rw [← hW] at HBN ⊢
          clear hW
          rcases form_cases v4 v6 v8 v9 with ⟨hG, hr⟩ | ⟨hG, hr, d1⟩ | ⟨hG, hr, d1, d2⟩ | ⟨hG, hr, d1, d2, b1, b2⟩ | ⟨hG, hr, d1, d2, b1, d4⟩ | ⟨hG, hr, d1, d2, b1, b2, d4⟩ | ⟨hG, hr, d1, d2, b1, d4⟩ | ⟨hG, hr, d1, d2, b1, b2, d4⟩
          · skip
            have HR := Lib.hid hr
            have HG := Lib.hid hG
            clear hr hG
            have HV : Hid (Z = fbErr (elOf ps 0) 10) := by
              show _ = _
              rw [HZ2.out, drop_ck0 HL0.out, HCD.out, fbR_none]
              rw [stepS_start, if_neg (fun h => by have h2 : formOk d = true := h.2; rw [HF.out, HG.out] at h2; cases h2)]
            go_upto_region 11 with (go_at_call 29; refine (RISRATE_eq _ _ HR _).mono ?_; rintro e w2 ⟨rfl, rfl⟩)
            have p9 := (HBN.out.cell (p := ⟨gp, 0, none⟩) hgp).trans (HPP.out (0) (by omega))
            have HR5 := Lib.hid ((HBN.out.block gr hgr9).trans HR1.out)
            have HBW := Lib.hid (HB1.out.trans (HBN.out.mono hs1))
            obtain ⟨x0, x1, f0, f1⟩ := cells2 HR5.out
            go_wp2_with fail
            go_region
            go_wp2_with fail
            have HS9 := two_set W gr _ _ (.int .i64 0) (.slice none 0 0) x0 x1
            refine fin_snd4 rfl rfl rfl HS9.1 HS9.2 ?_
            rw [HV.out]
            exact OutFB.err (set2_below HBW.out hgrw).drew
          · skip
            have HR := Lib.hid hr
            have HG := Lib.hid hG
            clear hr hG
            have HV : Hid (Z = fbErr (elOf ps 0) 10) := by
              show _ = _
              rw [HZ2.out, drop_ck0 HL0.out, HCD.out, fbR_none]
              rw [stepS_start, if_neg (fun h => by have h2 : formOk d = true := h.2; rw [HF.out, HG.out] at h2; cases h2)]
            go_upto_region 11 with (go_at_call 29; refine (RISRATE_eq _ _ HR _).mono ?_; rintro e w2 ⟨rfl, rfl⟩)
            have p9 := (HBN.out.cell (p := ⟨gp, 0, none⟩) hgp).trans (HPP.out (0) (by omega))
            have HR5 := Lib.hid ((HBN.out.block gr hgr9).trans HR1.out)
            have HBW := Lib.hid (HB1.out.trans (HBN.out.mono hs1))
            obtain ⟨x0, x1, f0, f1⟩ := cells2 HR5.out
            go_wp2_with fail
            go_region
            go_wp2_with fail
            have HS9 := two_set W gr _ _ (.int .i64 0) (.slice none 0 0) x0 x1
            refine fin_snd4 rfl rfl rfl HS9.1 HS9.2 ?_
            rw [HV.out]
            exact OutFB.err (set2_below HBW.out hgrw).drew
          · skip
            have HR := Lib.hid hr
            have HG := Lib.hid hG
            clear hr hG
            have HV : Hid (Z = fbErr (elOf ps 0) 10) := by
              show _ = _
              rw [HZ2.out, drop_ck0 HL0.out, HCD.out, fbR_none]
              rw [stepS_start, if_neg (fun h => by have h2 : formOk d = true := h.2; rw [HF.out, HG.out] at h2; cases h2)]
            go_upto_region 11 with (go_at_call 29; refine (RISRATE_eq _ _ HR _).mono ?_; rintro e w2 ⟨rfl, rfl⟩)
            have p9 := (HBN.out.cell (p := ⟨gp, 0, none⟩) hgp).trans (HPP.out (0) (by omega))
            have HR5 := Lib.hid ((HBN.out.block gr hgr9).trans HR1.out)
            have HBW := Lib.hid (HB1.out.trans (HBN.out.mono hs1))
            obtain ⟨x0, x1, f0, f1⟩ := cells2 HR5.out
            go_wp2_with fail
            go_region
            go_wp2_with fail
            have HS9 := two_set W gr _ _ (.int .i64 0) (.slice none 0 0) x0 x1
            refine fin_snd4 rfl rfl rfl HS9.1 HS9.2 ?_
            rw [HV.out]
            exact OutFB.err (set2_below HBW.out hgrw).drew
          · skip
            have HR := Lib.hid hr
            have HG := Lib.hid hG
            clear hr hG
            have HV : Hid (Z = fbErr (elOf ps 0) 10) := by
              show _ = _
              rw [HZ2.out, drop_ck0 HL0.out, HCD.out, fbR_none]
              rw [stepS_start, if_neg (fun h => by have h2 : formOk d = true := h.2; rw [HF.out, HG.out] at h2; cases h2)]
            go_upto_region 11 with (go_at_call 29; refine (RISRATE_eq _ _ HR _).mono ?_; rintro e w2 ⟨rfl, rfl⟩)
            have p9 := (HBN.out.cell (p := ⟨gp, 0, none⟩) hgp).trans (HPP.out (0) (by omega))
            have HR5 := Lib.hid ((HBN.out.block gr hgr9).trans HR1.out)
            have HBW := Lib.hid (HB1.out.trans (HBN.out.mono hs1))
            obtain ⟨x0, x1, f0, f1⟩ := cells2 HR5.out
            go_wp2_with fail
            go_region
            go_wp2_with fail
            have HS9 := two_set W gr _ _ (.int .i64 0) (.slice none 0 0) x0 x1
            refine fin_snd4 rfl rfl rfl HS9.1 HS9.2 ?_
            rw [HV.out]
            exact OutFB.err (set2_below HBW.out hgrw).drew
          · skip
            have HR := Lib.hid hr
            have HG := Lib.hid hG
            clear hr hG
            have HV : Hid (Z = fbErr (elOf ps 0) 10) := by
              show _ = _
              rw [HZ2.out, drop_ck0 HL0.out, HCD.out, fbR_none]
              rw [stepS_start, if_neg (fun h => by have h2 : formOk d = true := h.2; rw [HF.out, HG.out] at h2; cases h2)]
            go_upto_region 11 with (go_at_call 29; refine (RISRATE_eq _ _ HR _).mono ?_; rintro e w2 ⟨rfl, rfl⟩)
            have p9 := (HBN.out.cell (p := ⟨gp, 0, none⟩) hgp).trans (HPP.out (0) (by omega))
            have HR5 := Lib.hid ((HBN.out.block gr hgr9).trans HR1.out)
            have HBW := Lib.hid (HB1.out.trans (HBN.out.mono hs1))
            obtain ⟨x0, x1, f0, f1⟩ := cells2 HR5.out
            go_wp2_with fail
            go_region
            go_wp2_with fail
            have HS9 := two_set W gr _ _ (.int .i64 0) (.slice none 0 0) x0 x1
            refine fin_snd4 rfl rfl rfl HS9.1 HS9.2 ?_
            rw [HV.out]
            exact OutFB.err (set2_below HBW.out hgrw).drew
          · skip
            have HR := Lib.hid hr
            have HG := Lib.hid hG
            clear hr hG
            have HV : Hid (Z = fbErr (elOf ps 0) 10) := by
              show _ = _
              rw [HZ2.out, drop_ck0 HL0.out, HCD.out, fbR_none]
              rw [stepS_start, if_neg (fun h => by have h2 : formOk d = true := h.2; rw [HF.out, HG.out] at h2; cases h2)]
            go_upto_region 11 with (go_at_call 29; refine (RISRATE_eq _ _ HR _).mono ?_; rintro e w2 ⟨rfl, rfl⟩)
            have p9 := (HBN.out.cell (p := ⟨gp, 0, none⟩) hgp).trans (HPP.out (0) (by omega))
            have HR5 := Lib.hid ((HBN.out.block gr hgr9).trans HR1.out)
            have HBW := Lib.hid (HB1.out.trans (HBN.out.mono hs1))
            obtain ⟨x0, x1, f0, f1⟩ := cells2 HR5.out
            go_wp2_with fail
            go_region
            go_wp2_with fail
            have HS9 := two_set W gr _ _ (.int .i64 0) (.slice none 0 0) x0 x1
            refine fin_snd4 rfl rfl rfl HS9.1 HS9.2 ?_
            rw [HV.out]
            exact OutFB.err (set2_below HBW.out hgrw).drew
          · have hb8 := b1
            have HF0 := HF
            exfalso
            have h := HSEL.out
            rw [HP.out] at h
            dsimp only at h
            rw [HCD.out] at h
            dsimp only at h
            rw [HF.out, hG] at h
            first
              | exact absurd h (by simp; done)
              | (obtain ⟨h1, h2⟩ := h
                 first
                   | exact absurd h1 (by simp; done)
                   | (unfold nAt at h2
                      rw [HV8.out] at h2
                      rw [h2] at hb8
                      exact absurd hb8 (by decide)))
          · have hb8 := b2
            have HF0 := HF
            exfalso
            have h := HSEL.out
            rw [HP.out] at h
            dsimp only at h
            rw [HCD.out] at h
            dsimp only at h
            rw [HF.out, hG] at h
            first
              | exact absurd h (by simp; done)
              | (obtain ⟨h1, h2⟩ := h
                 first
                   | exact absurd h1 (by simp; done)
                   | (unfold nAt at h2
                      rw [HV8.out] at h2
                      rw [h2] at hb8
                      exact absurd hb8 (by decide)))
        · have h12i : ((nd : Int) != 12) = true := by simp; omega
          have HV : Hid (Z = fbErr (elOf ps 0) 10) := by
            show _ = _
            rw [HZ2.out, drop_ck0 HL0.out, HCD.out, fbR_none]
            rw [stepS_start, if_neg (fun h => by have h2 := (formOk_in (show formOk d = true from h.2)).1; rw [HND.out] at h2; exact h12 h2)]
          clear h12
          have p9 := (HRF.out.cell (p := ⟨gp, 0, none⟩) hgp).trans (HPP.out (0) (by omega))
          have HR5 := Lib.hid ((HRF.out.block gr hgr9).trans HR1.out)
          have HBW := Lib.hid (HB1.out.trans (HRF.out.mono hs1))
          obtain ⟨x0, x1, f0, f1⟩ := cells2 HR5.out
          go_wp2_with fail
          go_region
          go_wp2_with fail
          have HS9 := two_set w1 gr _ _ (.int .i64 0) (.slice none 0 0) x0 x1
          refine fin_snd4 rfl rfl rfl HS9.1 HS9.2 ?_
          rw [HV.out]
          exact OutFB.err (set2_below HBW.out hgrw).drew
      · have e1 : ((strB nm).toList != [102, 111, 114, 109]) = true := by
          rw [ByteArray.toList_eq, strB_data]; simpa using hnm
        have e1' : ¬ (strB nm).toList = [102, 111, 114, 109] := by rw [ByteArray.toList_eq, strB_data]; exact hnm
        have HV : Hid (Z = fbErr (elOf ps 0) 10) := by
          show _ = _
          rw [HZ2.out, drop_ck0 HL0.out, HCD.out, fbR_none]
          rw [stepS_start, if_neg (fun h => hnm h.1)]
        clear hnm
        have p9 := (HRF.out.cell (p := ⟨gp, 0, none⟩) hgp).trans (HPP.out (0) (by omega))
        have HR5 := Lib.hid ((HRF.out.block gr hgr9).trans HR1.out)
        have HBW := Lib.hid (HB1.out.trans (HRF.out.mono hs1))
        obtain ⟨x0, x1, f0, f1⟩ := cells2 HR5.out
        go_wp2_with fail
        go_region
        go_wp2_with fail
        have HS9 := two_set w1 gr _ _ (.int .i64 0) (.slice none 0 0) x0 x1
        refine fin_snd4 rfl rfl rfl HS9.1 HS9.2 ?_
        rw [HV.out]
        exact OutFB.err (set2_below HBW.out hgrw).drew
  · have hfi : (f != 0) = true := by simpa using hf
    have HV : Hid (Z = fbErr at_ f) := by
      show _ = _
      rw [← HZ.out]
      unfold fbS
      rw [HP.out, if_pos hf]
    clear hf
    go_wp2_with fail
    have HS9 := two_set w1 gr _ _ (.int .i64 0) (.slice none 0 0) x0 x1
    refine fin_snd4 rfl rfl rfl HS9.1 HS9.2 ?_
    rw [HV.out]
    exact OutFB.err (set2_below HB1.out hgrw)
end Go.Proofs.YtlnjildkdmeflaaDoor
