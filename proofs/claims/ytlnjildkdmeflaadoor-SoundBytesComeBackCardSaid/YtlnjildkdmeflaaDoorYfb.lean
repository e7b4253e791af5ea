/- FromBytes, of the sound. -/
import Derived.Test.YtlnjildkdmeflaaDoorYtn
import Derived.Test.YtlnjildkdmeflaaDoorPlaced1
import Derived.Test.YtlnjildkdmeflaaDoorPackLaw
import Derived.RegionTactic
import Derived.BigRegion
set_option linter.unusedSimpArgs false
set_option linter.unusedVariables false
namespace Go.Proofs.YtlnjildkdmeflaaDoor
open Go.RowKit Go.Dw
theorem RTAKE_any (N g : Nat) (st : Rd) (d : By) (s : ByteArray) (A : Option Addr) (n c : Nat) (hc : n ≤ c ∧ c ≤ maxLen) (hn8 : n ≤ 8000000) (w : World) (hN : N ≤ w.heap.size) (hR : Hid (RdAt w N g st)) (ho : Hid (RdOk st)) (hD : Hid (BysAt w N A n d)) (m9 : Int) (hmN : 0 < w.heap.size) (hm9 : Hid (w.cell? ⟨0, 0, none⟩ = some (.int .i64 m9))) :
    Calls Tryd.prog 26 #[.pointer (some ⟨g, 0, none⟩), .agg #[.string s, .slice A n c]] w fun e w' => e = .returned (.bool (stepS st (s.data.toList, d)).isSome) ∧ (∀ st', stepS st (s.data.toList, d) = some st' → RdAt w' N g st') ∧ Below N w w' := by
  cases st with
  | start => exact RTAKE_start N g d s A n c hc w hN hR hD
  | mid r T b m l =>
    obtain ⟨hG, hl, _⟩ := ho.out
    obtain ⟨_, _, _, hb, _⟩ := formG_in hG
    by_cases hq2 : s.data.toList = [110, 111, 116, 101]
    · exact RTAKE_note N g r T b m l d s A n c hn8 w hN (by omega) (by omega) hl hR hD hq2 m9 hmN hm9
    · by_cases hq3 : s.data.toList = [100, 97, 116, 97]
      · exact RTAKE_data N g r T b m l d s A n c hc w hN hG hR hD hq3
      · exact RTAKE_other N g r T b m l d s A n c w hN (by omega) (by omega) hR hq2 hq3
  | fin r b m xss l =>
    refine (RTAKE_fin N g r 0 m xss l s A n c w hN b hR).mono ?_
    rintro e w' ⟨rfl, hb⟩
    exact ⟨rfl, (fun st' h => by cases h), hb⟩
theorem res_snd4 {fn : Func} {p u x y : Tmp} (h : fn.results = #[.cell p 24, .tmp u, .tmp x, .tmp y]) {tmps : Array Value} {w : World} {g : Nat} {v0 v1 : Value} (hp : tmps.getD p undef = .pointer (some ⟨g, 0, none⟩))
    (h0 : w.cell? ⟨g, 0, none⟩ = some v0) (h1 : w.cell? ⟨g, 1, none⟩ = some v1) : (results fn tmps).run Tryd.prog w = .ok (.tuple #[.agg #[v0, v1], tmps.getD u undef, tmps.getD x undef, tmps.getD y undef]) w := by
  have hp' : tmps[p]?.getD undef = .pointer (some ⟨g, 0, none⟩) := by simpa using hp
  simp [results, h, hp', asAddr, load_snd w g v0 v1 h0 h1]
theorem fin_snd4 {fn : Func} {R : Ending → World → Prop} {a : Act} {w : World} {p u x y : Tmp} {g : Nat} {v0 v1 : Value} (h : fn.results = #[.cell p 24, .tmp u, .tmp x, .tmp y]) (hp : a.tmps.getD p undef = .pointer (some ⟨g, 0, none⟩)) (hd : a.defers = []) (c0 : w.cell? ⟨g, 0, none⟩ = some v0) (c1 : w.cell? ⟨g, 1, none⟩ = some v1)
    (hR : R (.returned (.tuple #[.agg #[v0, v1], a.tmps.getD u undef, a.tmps.getD x undef, a.tmps.getD y undef])) w) : bodyPost Tryd.prog fn R .ret a w := bodyPost_ret (res_snd4 h hp c0 c1) hd hR
theorem plS_len (b : By) : ∀ (f : Nat) (acc : List Ck) (ps : List Int) (at_ : Nat), acc.length = ps.length → (plS b f acc ps at_).1.1.length = (plS b f acc ps at_).1.2.length
  | 0, _, _, _, _ => rfl
  | f + 1, acc, ps, at_, h => by
    unfold plS
    by_cases h1 : at_ < b.length
    · rw [if_pos h1]
      by_cases h2 : acc.length = 1000
      · rw [if_pos h2]; rfl
      · rw [if_neg h2]
        cases hc : chunkS b at_ with
        | none => rfl
        | some x =>
          obtain ⟨c, nx⟩ := x
          exact plS_len b f _ _ nx (by simp [h])
    · rw [if_neg h1]; exact h
theorem placed_len (b : By) : (placedS b).1.1.length = (placedS b).1.2.length := by
  unfold placedS
  by_cases h : 8000000 < b.length
  · rw [if_pos h]; rfl
  · rw [if_neg h]; exact plS_len b _ _ _ _ rfl
/-- what FromBytes returns -/
def OutFB (w : World) (Z : FbZ) (e : Ending) (w' : World) : Prop :=
  ∃ v u, e = .returned (.tuple #[.agg #[.int .i64 Z.1.1.1, v], u, .int .i64 Z.2.1, .int .i64 Z.2.2]) ∧ OwnRows w' w.heap.size v Z.1.1.2 ∧ OwnNts w' w.heap.size u Z.1.2 ∧ Below w.heap.size w w'
theorem OutFB.err {w w' : World} {at_ f : Int} (hb : Below w.heap.size w w') : OutFB w (fbErr at_ f) (.returned (.tuple #[.agg #[.int .i64 0, .slice none 0 0], .slice none 0 0, .int .i64 at_, .int .i64 f])) w' :=
  ⟨_, _, rfl, OwnRows.nil _ _, OwnNts.nil _ _, hb⟩
theorem fbR_none {n : Nat} {ps : List Int} {k : Nat} {st : Rd} {c : Ck} {t : List Ck} (h : stepS st c = none) : fbR n ps k st (c :: t) = fbErr (elOf ps k) 10 := by
  cases st <;> (unfold fbR; rw [h])
theorem fbR_some {n : Nat} {ps : List Int} {k : Nat} {st st' : Rd} {c : Ck} {t : List Ck} (h : stepS st c = some st') : fbR n ps k st (c :: t) = fbR n ps (k + 1) st' t := by
  cases st <;> (conv => lhs; unfold fbR; rw [h])
theorem drop_ck {l : List Ck} {k : Nat} (hk : k < l.length) : l.drop k = ckOf l k :: l.drop (k + 1) := by
  rw [List.drop_eq_getElem_cons hk]; simp [ckOf, List.getD, List.getElem?_eq_getElem hk]
theorem rd_keep {w w' : World} {N g : Nat} {st : Rd} (h : RdAt w N g st) (hb : Below w.heap.size w w') : RdAt w' N g st := by
  cases st with
  | start => exact ⟨h.1, (hb.block g (blk_lt h.2)).trans h.2⟩
  | mid r T b m l => exact rd_mid_keep h hb
  | fin r b m xss l =>
    obtain ⟨v, u, h1, h2, h3, h4⟩ := h
    exact ⟨v, u, h1, (hb.block g (blk_lt h2)).trans h2, own_rows_below h3 hb, OwnNts.below h4 hb⟩
set_option maxRecDepth 100000 in
set_option maxHeartbeats 8000000 in
theorem FROMBYTES_any (A : Option Addr) (n c : Nat) (b : By) (hc : n ≤ c ∧ c ≤ maxLen) (w : World) (B : Nat) (hB : B ≤ w.heap.size) (hh : Hid (BysAt w B A n b)) (m9 : Int) (hmN : 0 < w.heap.size) (hm9 : Hid (w.cell? ⟨0, 0, none⟩ = some (.int .i64 m9))) :
    Calls Tryd.prog 7 #[.slice A n c] w (OutFB w (fbS b)) := by
  have hl := Lib.hid hh.out.1
  obtain ⟨Z, hZ⟩ : ∃ Z, fbS b = Z := ⟨_, rfl⟩
  have HZ := Lib.hid hZ
  rw [hZ]
  clear hZ
  go_enter Tryd.func7, Tryd.ntmps7
  go_upto_region 1 with (fail)
  obtain ⟨Y, gr, hY, hgr, HY, HBY, HSY⟩ := one_box w (.cells #[.int .i64 0, .slice none 0 0] 24)
  rw [← hgr, ← hY]
  have HGR := Lib.hid hgr
  have hsY := HBY.out.size
  clear hY hgr
  go_wp2_with fail
  refine (PLACED_any A n c b hc _ B (Nat.le_trans hB hsY) (hh.out.below (HBY.out.mono hB) (Nat.le_refl _))).mono ?_
  obtain ⟨⟨⟨l, ps⟩, at_, f⟩, hP⟩ : ∃ P, placedS b = P := ⟨_, rfl⟩
  have HP := Lib.hid hP
  have HPL := Lib.hid (placed_len b)
  rw [hP] at HPL ⊢
  clear hP
  rintro e w1 ⟨v, u, rfl, hck, hps, hb1⟩
  dsimp only at hck hps HPL ⊢
  have HB1 := Lib.hid (HBY.out.trans (hb1.mono hsY))
  have HR1 := Lib.hid ((hb1.block gr (blk_lt HY.out)).trans HY.out)
  have hs1 := HB1.out.size
  have hgrY := blk_lt HY.out
  clear hb1 HY
  obtain ⟨A1, c1, rfl, hc11, hc12⟩ := hck.form
  obtain ⟨A2, c2, rfl, hc21, hc22⟩ := own_form hps
  have HCK := Lib.hid hck.at_
  have HPS := Lib.hid hps
  clear hck hps
  obtain ⟨L, hL⟩ : ∃ L, l.length = L := ⟨_, rfl⟩
  have HLN := Lib.hid hL
  have hLp : ps.length = L := HPL.out.symm.trans hL
  have HLP := Lib.hid hLp
  rw [hL] at HCK hc11 ⊢
  rw [hLp] at HPS hc21 ⊢
  clear hL hLp
  have hgr9 := blk_lt HR1.out
  have hgrw : w.heap.size ≤ gr := by rw [HGR.out]; exact Nat.le_refl _
  obtain ⟨x0, x1, f0, f1⟩ := cells2 HR1.out
  by_cases hf : f = 0
  · subst hf
    obtain ⟨_, _, h1000, hsm⟩ := placed_back HP.out
    have hL9 : L ≤ 1000 := by rw [← HLN.out]; exact h1000
    clear h1000
    have HSM := Lib.hid hsm
    have HZ2 : Hid (Z = fbR b.length ps 0 .start l) := by
      show _ = _
      rw [← HZ.out]
      unfold fbS
      rw [HP.out]
      rfl
    clear hsm x0 x1 f0 f1 HZ
    go_upto_region 5 with (fail)
    obtain ⟨Y2, g, hY2, hg, HY2, HBY2, HSY2⟩ := one_box w1 (.cells #[.int .i64 0, .slice none 0 0, .int .i64 0, .int .i64 0, .slice none 0 0, .bool false] 55)
    rw [← hg, ← hY2]
    have HGW : w1.heap.size ≤ g := by rw [hg]; exact Nat.le_refl _
    have HRD : Hid (RdAt Y2 w1.heap.size g .start) := ⟨HGW, HY2.out⟩
    clear hY2 hg HY2
    go_wp2_with fail
    go_loopw [27] (fun i wr => ∃ (k : Nat) (st : Rd), k ≤ L ∧ i = .int .i64 k ∧ Hid (RdAt wr w1.heap.size g st) ∧ Hid (RdOk st) ∧ Hid (Z = fbR b.length ps k st (l.drop k)) ∧ Hid (Below w1.heap.size w1 wr)) (fun i _ => L - (intOf i).toNat)
    case atStart => exact ⟨0, .start, Nat.zero_le _, rfl, HRD, trivial, (by rw [List.drop_zero]; exact HZ2), HBY2⟩
    case round =>
      clear HRD HBY2 HZ2
      obtain ⟨wk, rfl⟩ : ∃ x : World, x = wr := ⟨_, rfl⟩
      obtain ⟨k, st, hk, rfl, HRD, HOK, HZ2, hb⟩ := hrel
      have hk0 : (0 : Int) ≤ (k : Int) := by omega
      have hsk := hb.out.size
      have HRk := Lib.hid ((hb.out.block gr hgr9).trans HR1.out)
      have HBk := Lib.hid (HB1.out.trans (hb.out.mono hs1))
      by_cases hkl : k < L
      · have hki : (k : Int) < (L : Int) := by omega
        have hkl2 : Hid (k < l.length) := by show _ < _; rw [HLN.out]; exact hkl
        obtain ⟨b', o', e', hbB', p0, A', c', p1, q1, q2, q3⟩ := HCK.out.2 k hkl
        subst e'
        have hdl : ((l.getD k ([], [])).2).length ≤ 8000000 := HSM.out _ (by simp [List.getD, List.getElem?_eq_getElem hkl2.out])
        obtain ⟨⟨nm, d⟩, hcd⟩ : ∃ x, l.getD k ([], []) = x := ⟨_, rfl⟩
        have HCD : Hid (ckOf l k = (nm, d)) := hcd
        rw [hcd] at p0 p1 q1 q3 hdl
        dsimp only at p0 p1 q1 q3 hdl
        have p0' : wk.cell? ⟨b', o' + k * 2, none⟩ = some (.string (strB nm)) := (hb.out.cell (p := ⟨b', o' + k * 2, none⟩) hbB').trans p0
        have p1' := (hb.out.cell (p := ⟨b', o' + k * 2 + 1, none⟩) hbB').trans p1
        have HQ3 := Lib.hid q3
        clear p0 p1 q3 hcd
        go_upto_region 8 with (fail)
        obtain ⟨Y3, g3, hY3, hg3, HY3, HBY3, HSY3⟩ := one_box wk (.cells #[.string (strB nm), .slice A' d.length c'] 42)
        rw [← hg3, ← hY3]
        have HB3 := Lib.hid (hb.out.trans (HBY3.out.mono hsk))
        have HR3 : Hid (RdAt Y3 w1.heap.size g st) := rd_keep HRD.out HBY3.out
        obtain ⟨z0, z1, _, _⟩ := cells2 HY3.out
        clear hY3 hg3 p0' p1'
        go_wp2_with fail
        refine (RTAKE_any w1.heap.size g st d (strB nm) A' d.length c' ⟨q1, q2⟩ hdl _ HB3.out.size HR3 HOK (HQ3.out.below HB3.out (Nat.le_refl _)) m9 (Nat.lt_of_lt_of_le hmN (Nat.le_trans hs1 HB3.out.size)) (((HB1.out.trans (HB3.out.mono hs1)).cell (p := ⟨0, 0, none⟩) hmN).trans hm9.out)).mono ?_
        rw [strB_data]
        rintro e w5 ⟨rfl, h5, hb5⟩
        have H5 := Lib.hid h5
        have HB5 := Lib.hid (HB3.out.trans hb5)
        clear h5 hb5 z0 z1
        obtain ⟨q, hq⟩ : ∃ q, stepS st (nm, d) = q := ⟨_, rfl⟩
        have HQ := Lib.hid hq
        rw [hq]
        clear hq
        cases q with
        | none =>
          have HV : Hid (Z = fbErr (elOf ps k) 10) := by
            show _ = _
            rw [HZ2.out, drop_ck hkl2.out, HCD.out, fbR_none HQ.out]
          obtain ⟨gp, cp, e9, hgpY, hgp, _, _, hh9⟩ := own_slot HPS.out (by omega)
          injection e9 with e9 _ _
          subst e9
          have p9 : w5.cell? ⟨gp, k, none⟩ = some (.int .i64 (elOf ps k)) := by
            refine (HB5.out.cell (p := ⟨gp, k, none⟩) hgp).trans ((hh9 k hkl).1.trans ?_)
            have hkp : k < ps.length := by rw [HLP.out]; exact hkl
            simp [elOf, List.getD, List.getElem?_eq_getElem hkp]
          have hne1 : ¬ gp = gr := by omega
          have hne2 : ¬ gr = gp := by omega
          have HR5 := Lib.hid ((HB5.out.block gr hgr9).trans HR1.out)
          have HBW := Lib.hid (HB1.out.trans (HB5.out.mono hs1))
          obtain ⟨x0, x1, f0, f1⟩ := cells2 HR5.out
          clear hh9
          go_wp2_with fail
          go_region
          go_wp2_with fail
          have HS9 := two_set w5 gr _ _ (.int .i64 0) (.slice none 0 0) x0 x1
          refine fin_snd4 rfl rfl rfl HS9.1 HS9.2 ?_
          rw [HV.out]
          exact OutFB.err (set2_below HBW.out hgrw).drew
        | some st' =>
          have HV : Hid (Z = fbR b.length ps (k + 1) st' (l.drop (k + 1))) := by
            show _ = _
            rw [HZ2.out, drop_ck hkl2.out, HCD.out, fbR_some HQ.out]
          have HR6 := Lib.hid (H5.out st' HQ.out)
          have HO6 := Lib.hid (stepS_ok HQ.out HOK.out)
          go_wp2_with fail
          go_roundw
          case rel => exact ⟨k + 1, st', by omega, by go_num, HR6, HO6, HV, HB5⟩
          case measure => simp [intOf]; omega
      · obtain rfl : k = L := by omega
        have hki : ¬ (k : Int) < (k : Int) := by omega
        rw [List.drop_of_length_le (by rw [HLN.out]; exact Nat.le_refl _)] at HZ2
        obtain ⟨x0, x1, f0, f1⟩ := cells2 HRk.out
        cases st with
        | start =>
          have HV : Hid (Z = fbErr n 10) := by show _ = _; rw [HZ2.out, ← hl.out]; rfl
          obtain ⟨⟨_, _, _, _, _, x5⟩, _⟩ := cells6 HRD.out.2
          go_wp2_with fail
          have HS9 := two_set wk gr _ _ (.int .i64 0) (.slice none 0 0) x0 x1
          refine fin_snd4 rfl rfl rfl HS9.1 HS9.2 ?_
          rw [HV.out]
          exact OutFB.err (set2_below HBk.out hgrw)
        | mid r T b9 m l9 =>
          have HV : Hid (Z = fbErr n 10) := by show _ = _; rw [HZ2.out, ← hl.out]; rfl
          obtain ⟨v9, u9, _, hbx, _, _⟩ := HRD.out
          obtain ⟨⟨_, _, _, _, _, x5⟩, _⟩ := cells6 hbx
          clear hbx
          go_wp2_with fail
          have HS9 := two_set wk gr _ _ (.int .i64 0) (.slice none 0 0) x0 x1
          refine fin_snd4 rfl rfl rfl HS9.1 HS9.2 ?_
          rw [HV.out]
          exact OutFB.err (set2_below HBk.out hgrw)
        | fin r b9 m xss l9 =>
          have HV : Hid (Z = (((r, xss), l9), 0, 0)) := by show _ = _; rw [HZ2.out]; rfl
          obtain ⟨v9, u9, _, hbx, hrw, hnt⟩ := HRD.out
          obtain ⟨A9, c9, rfl, _, _⟩ := hrw.form
          obtain ⟨A8, c8, rfl, _, _⟩ := OwnNts.len hnt
          obtain ⟨⟨z0, z1, _, _, z4, z5⟩, _⟩ := cells6 hbx
          have HRW9 := Lib.hid hrw
          have HNT9 := Lib.hid hnt
          have hne1 : ¬ g = gr := by omega
          have hne2 : ¬ gr = g := by omega
          clear hbx hrw hnt
          go_wp2_with fail
          go_region
          go_wp2_with fail
          have HS9 := two_set wk gr _ _ (.int .i64 r) (.slice A9 xss.length c9) x0 x1
          refine fin_snd4 rfl rfl rfl HS9.1 HS9.2 ?_
          rw [HV.out]
          refine ⟨_, _, rfl, ?_, ?_, (set2_below HBk.out hgrw).drew⟩
          · obtain ⟨rows, hL⟩ := HRW9.out
            exact ⟨rows, (((hL.set_below (p := ⟨gr, 0, none⟩) hgr9 _).set_below (p := ⟨gr, 1, none⟩) hgr9 _).base hs1).drew⟩
          · have h1 : ((wk.setCell ⟨gr, 0, none⟩ (.int .i64 r)).setCell ⟨gr, 1, none⟩ (.slice A9 xss.length c9)).ownsRow w1.heap.size 36 2 (.slice A8 l9.length c8) l9.length (nxsC l9) :=
              own_far (p := ⟨gr, 1, none⟩) (own_far (p := ⟨gr, 0, none⟩) (show wk.ownsRow w1.heap.size 36 2 (.slice A8 l9.length c8) l9.length (nxsC l9) from HNT9.out) (.inr (fun e => by have := (own_lt HNT9.out e).1; dsimp only at this; omega)) _) (.inr (fun e => by have := (own_lt HNT9.out e).1; dsimp only at this; omega)) _
            exact OwnNts.below (OwnNts.lower h1 hs1) (Below.refl _ _).drew
  · have hfi : (f != 0) = true := by simpa using hf
    have HV : Hid (Z = fbErr at_ f) := by
      show _ = _
      rw [← HZ.out]
      unfold fbS
      rw [HP.out, if_pos hf]
    clear hf
    go_wp2_with fail
    have HS9 := two_set w1 gr _ _ (.int .i64 0) (.slice none 0 0) x0 x1
    refine fin_snd4 rfl rfl rfl HS9.1 HS9.2 ?_
    rw [HV.out]
    exact OutFB.err (set2_below HB1.out hgrw)
end Go.Proofs.YtlnjildkdmeflaaDoor
