/- clock: result, checkTwo, RatioOf, Rounded. -/
import Derived.Test.YtcjdmffflepplaaDoorCrs
set_option linter.unusedSimpArgs false
set_option linter.unusedVariables false
namespace Go.Proofs.YtcjdmffflepplaaDoor
open Go.RowKit Go.Dw
theorem FROM_ok {s t : ByteArray} {q : Rat} (h : Rt s t q) (w : World) : Calls Tryd.prog 28 #[.agg #[.string s, .string t]] w (OutQ w q 2001 2000) := by
  have hr := chk_right h.chk
  have hz := h.size
  refine (QFROM_any s t (Lib.hid hr.body.1) (by omega) (Lib.hid hr.den.1) (by omega) w).mono ?_
  rintro e w' ⟨neg, A, n, c, A', n', c', rfl, h1, h2, h3, h4⟩
  refine ⟨neg, A, n, c, A', n', c', rfl, ?_, by omega, by omega, h4⟩
  have := h1.rat hr.pos (by rw [parseZ_abs]; exact hr.low)
  rw [show mkRat (parseZ s) (decV t.data.toList) = q from h.val] at this
  exact this
set_option maxRecDepth 100000 in
set_option maxHeartbeats 1000000 in
theorem CHECKTWO_any (s t s' t' : ByteArray) (hs : s.size ≤ maxLen) (ht : t.size ≤ maxLen) (hs' : s'.size ≤ maxLen) (ht' : t'.size ≤ maxLen) (w : World) :
    Calls Tryd.prog 26 #[.agg #[.string s, .string t], .agg #[.string s', .string t']] w fun e w' => e = .returned (.int .i64 (chk2 s t s' t')) ∧ Below w.heap.size w w' := by
  obtain ⟨W, gx, hW, hgx, HHW, HBW, HSW⟩ := boxes2 w (.cells #[.string s, .string t] 28) (.cells #[.string s', .string t'] 28)
  have HGX := Lib.hid hgx
  obtain ⟨x0, x1, _, _⟩ := two_cells HHW.out.1
  obtain ⟨y0, y1, _, _⟩ := two_cells HHW.out.2
  have hgw := blk_lt HHW.out.2
  obtain ⟨k, hk⟩ : ∃ k, chkQ s t = k := ⟨_, rfl⟩
  have HK := Lib.hid hk
  clear hk
  go_enter Tryd.func26, Tryd.ntmps26
  go_upto_region 1 with (fail)
  rw [← hW, ← hgx]
  clear hW hgx
  go_wp2_with fail
  refine (CHECKRATIO_any s t hs ht _).mono ?_
  rintro e w1 ⟨rfl, hb1⟩
  rw [HK.out]
  obtain ⟨y0, y1⟩ := two_keep (And.intro y0 y1) hb1 (by dsimp only; omega) (by dsimp only; omega)
  have HB1 := Lib.hid (HBW.out.trans (hb1.mono HBW.out.size))
  clear hb1 x0 x1
  by_cases h0 : k = 0
  · subst h0
    go_wp2_with fail
    refine (CHECKRATIO_any s' t' hs' ht' _).mono ?_
    rintro e w2 ⟨rfl, hb2⟩
    have HB2 := Lib.hid (HB1.out.trans (hb2.mono HB1.out.size))
    clear hb2
    go_wp2_with fail
    go_ret
    exact ⟨by unfold chk2; rw [if_pos HK.out]; rfl, HB2.out⟩
  · have h1 : (k != 0) = true := by simpa using h0
    have HV : Hid (chk2 s t s' t' = k) := by show _ = _; unfold chk2; rw [if_neg (by rw [HK.out]; exact h0), HK.out]
    clear h0
    go_wp2_with fail
    go_ret
    exact ⟨by rw [HV.out]; rfl, HB1.out⟩
theorem end_ratio_new {fn : Func} {R : Ending → World → Prop} {a : Act} {w : World} {p u : Tmp} {g : Nat} {v0 v1 o0 o1 : Value} {o : Obj} (h : fn.results = #[.cell p 28, .tmp u]) (hp : a.tmps.getD p undef = .pointer (some ⟨g, 0, none⟩)) (hd : a.defers = []) (c0 : w.cell? ⟨g, 0, none⟩ = some o0) (c1 : w.cell? ⟨g, 1, none⟩ = some o1)
    (hR : R (.returned (.tuple #[.agg #[v0, v1], a.tmps.getD u undef])) (((w.setCell ⟨g, 0, none⟩ v0).setCell ⟨g, 1, none⟩ v1).alloc o)) : bodyPost Tryd.prog fn R .ret a (((w.setCell ⟨g, 0, none⟩ v0).setCell ⟨g, 1, none⟩ v1).alloc o) := by
  have hg : g < w.heap.size := World.block_lt_of_cell? w ⟨g, 0, none⟩ c0
  obtain ⟨k0, k1⟩ := two_set' w g o0 o1 v0 v1 c0 c1
  have hs : ((w.setCell ⟨g, 0, none⟩ v0).setCell ⟨g, 1, none⟩ v1).heap.size = w.heap.size := by simp
  have hb := (Below.refl ((w.setCell ⟨g, 0, none⟩ v0).setCell ⟨g, 1, none⟩ v1).heap.size ((w.setCell ⟨g, 0, none⟩ v0).setCell ⟨g, 1, none⟩ v1)).alloc (Nat.le_refl _) o
  exact bodyPost_ret (res_ratio h hp ((hb.cell (p := ⟨g, 0, none⟩) (by rw [hs]; exact hg)).trans k0) ((hb.cell (p := ⟨g, 1, none⟩) (by rw [hs]; exact hg)).trans k1)) hd hR
set_option maxRecDepth 100000 in
set_option maxHeartbeats 1000000 in
theorem RESULT_any (neg : Bool) (A D : Option Addr) (n c m d : Nat) (q : Rat) (hn : n ≤ 1000000) (hm : m ≤ 1000000) (w : World) (B : Nat) (hB : B ≤ w.heap.size) (hh : Hid (RatAt w B neg A n c D m d q)) :
    Calls Tryd.prog 27 #[.agg #[.bool neg, .slice A n c, .slice D m d]] w fun e w' => e = .returned (tup3 (resP q)) ∧ Below w.heap.size w w' := by
  obtain ⟨W, gx, hW, hgx, HHW, HBW, HSW⟩ := boxes2 w (.cells #[.bool neg, .slice A n c, .slice D m d] 46) (.cells #[.string ⟨#[]⟩, .string ⟨#[]⟩] 28)
  have HGX := Lib.hid hgx
  obtain ⟨x0, x1, x2, _, _, _⟩ := three_cells HHW.out.1
  have hgw := blk_lt HHW.out.2
  have HRW := Lib.hid (hh.out.to HBW.out hB (by have := HSW.out; omega))
  go_enter Tryd.func27, Tryd.ntmps27
  go_upto_region 1 with (fail)
  rw [← hW, ← hgx]
  clear hW hgx
  go_wp2_with fail
  refine (QRATIO_any neg A D n c m d q 2000 (by omega) hn hm _ W.heap.size (Nat.le_refl _) HRW).mono ?_
  rintro e w1 ⟨rfl, hb1⟩
  have hhx := (hb1.block (gx + 1) hgw).trans HHW.out.2
  obtain ⟨hr0, hr1, hf0, hf1⟩ := two_cells hhx
  have HHX := Lib.hid hhx
  have hgx1 := blk_lt hhx
  have HB1 := Lib.hid (HBW.out.trans (hb1.mono HBW.out.size))
  clear hhx hb1 x0 x1 x2
  by_cases hf : fewT q 2000 = true
  · have HV : Hid (resP q = (txN q, txD q, 0)) := resP_few hf
    have hrt : ratT q 2000 = .tuple #[.agg #[.string (txN q), .string (txD q)], .bool true] := by unfold ratT; rw [if_pos hf]; rfl
    rw [hrt]
    obtain ⟨S, hS⟩ : ∃ S, txN q = S := ⟨_, rfl⟩
    obtain ⟨T, hT⟩ : ∃ T, txD q = T := ⟨_, rfl⟩
    rw [hS, hT] at HV ⊢
    clear hf hrt hS hT
    go_wp2_with fail
    exact end_ratio_new rfl rfl rfl hr0 hr1 ⟨by rw [HV.out]; rfl, (set2_below' HB1.out (by have := HGX.out; omega)).alloc (by simp only [World.size_setCell]; exact HB1.out.size) _⟩
  · have HV : Hid (resP q = (noB, noB, 2)) := by show _ = _; unfold resP; rw [if_neg hf]
    have hrt : ratT q 2000 = .tuple #[.agg #[.string ⟨#[]⟩, .string ⟨#[]⟩], .bool false] := by unfold ratT; rw [if_neg hf]
    rw [hrt]
    clear hf hrt
    go_wp2_with fail
    exact end_ratio_new rfl rfl rfl hr0 hr1 ⟨by rw [HV.out]; rfl, (set2_below' HB1.out (by have := HGX.out; omega)).alloc (by simp only [World.size_setCell]; exact HB1.out.size) _⟩
theorem ratioS_frac {a b : Int} (hb : b ≠ 0) : ratioS a b = resP ((a : Rat) / b) := by unfold ratioS; rw [if_neg hb]
set_option maxRecDepth 100000 in
set_option maxHeartbeats 1000000 in
theorem RATIOOF_any (a b : Int) (h1 : -9223372036854775808 ≤ a) (h2 : a ≤ 9223372036854775807) (h3 : -9223372036854775808 ≤ b) (h4 : b ≤ 9223372036854775807) (w : World) :
    Calls Tryd.prog 13 #[.int .i64 a, .int .i64 b] w fun e w' => e = .returned (tup3 (ratioS a b)) ∧ Below w.heap.size w w' := by
  obtain ⟨W, gx, hW, hgx, HHW, HBW, HSW⟩ := cell_new w 28 #[.string ⟨#[]⟩, .string ⟨#[]⟩]
  have HGX := Lib.hid hgx
  have hgw := blk_lt HHW.out
  by_cases hb : b = 0
  · subst hb
    obtain ⟨hr0, hr1, hf0, hf1⟩ := two_cells HHW.out
    go_enter Tryd.func13, Tryd.ntmps13
    go_upto_region 1 with (fail)
    rw [← hW, ← hgx]
    clear hW hgx
    go_wp2_with fail
    exact end_ratio rfl rfl rfl hr0 hr1 ⟨rfl, set2_below' HBW.out (by have := HGX.out; omega)⟩
  · rw [ratioS_frac hb]
    have hbb : (b == 0) = false := by simpa using hb
    go_enter Tryd.func13, Tryd.ntmps13
    go_upto_region 1 with (fail)
    rw [← hW, ← hgx]
    clear hW hgx
    have HNB := Lib.hid hb
    clear hb
    go_wp2_with fail
    refine (QFRAC_any a b h1 h2 h3 h4 HNB.out _).mono ?_
    rintro e w1 ⟨neg, A, n, c, A', n', c', rfl, h5, k1, k2, hb1⟩
    have H5 := Lib.hid h5
    have HB1 := Lib.hid (HBW.out.trans (hb1.mono HBW.out.size))
    have hx1 := hb1.block gx hgw
    have hg1 := Nat.lt_of_lt_of_le hgw hb1.size
    clear h5 hb1
    go_wp2_with fail
    refine (RESULT_any neg A A' n c n' c' _ (by omega) (by omega) _ w1.heap.size (Nat.le_refl _) H5).mono ?_
    rintro e w2 ⟨rfl, hb2⟩
    obtain ⟨hr0, hr1, hf0, hf1⟩ := two_cells ((hb2.block gx hg1).trans (hx1.trans HHW.out))
    have HB2 := Lib.hid (HB1.out.trans (hb2.mono HB1.out.size))
    clear hb2 hx1
    obtain ⟨⟨S, T, f⟩, hV⟩ : ∃ p, resP ((a : Rat) / b) = p := ⟨_, rfl⟩
    have HV := Lib.hid hV
    rw [hV]
    clear hV
    unfold tup3
    dsimp only
    go_wp2_with fail
    exact end_ratio rfl rfl rfl hr0 hr1 ⟨by rw [HV.out]; rfl, set2_below' HB2.out (by have := HGX.out; omega)⟩
theorem rnd_small (z : Int) : (rndZ z = (z, 0) ∧ z.natAbs ≤ 4611686018427387904) ∨ (rndZ z = (0, 1) ∧ 4611686018427387904 < z.natAbs) := by
  unfold rndZ
  by_cases h : z.natAbs ≤ 4611686018427387904
  · rw [if_pos h]; exact .inl ⟨rfl, h⟩
  · rw [if_neg h]; exact .inr ⟨rfl, by omega⟩
set_option maxRecDepth 100000 in
set_option maxHeartbeats 1000000 in
theorem ROUNDED_any (s t : ByteArray) (way : Int) (hs : s.size ≤ maxLen) (ht : t.size ≤ maxLen) (w : World) :
    Calls Tryd.prog 14 #[.agg #[.string s, .string t], .int .i64 way] w fun e w' => e = .returned (.tuple #[.int .i64 (rndS s t way).1, .int .i64 (rndS s t way).2]) ∧ Below w.heap.size w w' := by
  obtain ⟨W, gx, hW, hgx, HHW, HBW, HSW⟩ := cell_new w 28 #[.string s, .string t]
  have HGX := Lib.hid hgx
  obtain ⟨x0, x1, _, _⟩ := two_cells HHW.out
  have hgw := blk_lt HHW.out
  obtain ⟨k, hk⟩ : ∃ k, chkQ s t = k := ⟨_, rfl⟩
  have HK := Lib.hid hk
  clear hk
  go_enter Tryd.func14, Tryd.ntmps14
  go_upto_region 1 with (fail)
  rw [← hW, ← hgx]
  clear hW hgx
  go_wp2_with fail
  refine (CHECKRATIO_any s t hs ht _).mono ?_
  rintro e w1 ⟨rfl, hb1⟩
  rw [HK.out]
  obtain ⟨x0, x1⟩ := two_keep (And.intro x0 x1) hb1 (by dsimp only; omega) (by dsimp only; omega)
  have HB1 := Lib.hid (HBW.out.trans (hb1.mono HBW.out.size))
  clear hb1
  by_cases h0 : k = 0
  · subst h0
    have HR := Lib.hid (Rt.of HK.out)
    obtain ⟨q, hq⟩ : ∃ q, valQ s t = q := ⟨_, rfl⟩
    rw [hq] at HR
    clear hq
    obtain ⟨b, hb⟩ : ∃ b, okWay way = b := ⟨_, rfl⟩
    have HY : Hid ((decide (1 ≤ way) && decide (way ≤ 3)) = b) := hb
    have HOW := Lib.hid hb
    clear hb
    cases b with
    | false =>
      have HV : Hid (rndS s t way = (0, 4)) := by show _ = _; unfold rndS; rw [if_pos HK.out, if_pos HOW.out]
      go_wp2_with (go_at_call 19; refine (ISWAY_any way _).mono ?_; rintro e w2 ⟨rfl, rfl⟩; rw [HY.out])
      go_ret2
      exact ⟨by rw [HV.out]; rfl, HB1.out⟩
    | true =>
      have HV : Hid (rndS s t way = rndZ (roundQ q way)) := rndS_rt HR.out HOW.out
      go_wp2_with (go_at_call 19; refine (ISWAY_any way _).mono ?_; rintro e w2 ⟨rfl, rfl⟩; rw [HY.out])
      refine (FROM_ok HR.out _).mono ?_
      rintro e w3 ⟨neg, A, n, c, A', n', c', rfl, h3, k3, k4, hb3⟩
      have H3 := Lib.hid h3
      have HB3 := Lib.hid (HB1.out.trans (hb3.mono HB1.out.size))
      clear h3 hb3
      go_wp2_with fail
      refine (CROUND_any neg A A' n c n' c' q way (by omega) (by omega) _ w3.heap.size (Nat.le_refl _) H3).mono ?_
      rintro e w4 ⟨ng4, A4, n4, c4, rfl, h4, k5, hb4⟩
      have H4 := Lib.hid h4
      have HB4 := Lib.hid (HB3.out.trans (hb4.mono HB3.out.size))
      clear h4 hb4
      go_wp2_with fail
      refine (ISMALL_any ng4 A4 n4 c4 _ _ w4.heap.size (Nat.le_refl _) H4).mono ?_
      rintro e w5 ⟨rfl, hb5⟩
      have HB5 := Lib.hid (HB4.out.trans (hb5.mono HB4.out.size))
      clear hb5 H4
      obtain ⟨z, hz⟩ : ∃ z, roundQ q way = z := ⟨_, rfl⟩
      rw [hz] at HV ⊢
      clear hz
      by_cases hsm : z.natAbs < 9223372036854775808
      · have he : smallI z = (z, true) := by unfold smallI; rw [if_pos hsm]
        rw [he]
        clear he
        rcases rnd_small z with ⟨hr1, hr2⟩ | ⟨hr1, hr2⟩
        · rw [hr1] at HV
          have e1 : ¬ (4611686018427387904 : Int) < z := by omega
          have e2 : ¬ z < -4611686018427387904 := by omega
          clear hr1 hr2 hsm
          go_wp2_with fail
          go_ret2
          exact ⟨by rw [HV.out]; rfl, HB5.out⟩
        · rw [hr1] at HV
          by_cases e1 : (4611686018427387904 : Int) < z
          · clear hr1 hr2 hsm
            go_wp2_with fail
            go_ret2
            exact ⟨by rw [HV.out]; rfl, HB5.out⟩
          · have e2 : z < -4611686018427387904 := by omega
            clear hr1 hr2 hsm
            go_wp2_with fail
            go_ret2
            exact ⟨by rw [HV.out]; rfl, HB5.out⟩
      · have he : smallI z = (0, false) := by unfold smallI; rw [if_neg hsm]
        have hr1 : rndZ z = (0, 1) := by unfold rndZ; rw [if_neg (by omega)]
        rw [hr1] at HV
        rw [he]
        clear he hr1 hsm
        go_wp2_with fail
        go_ret2
        exact ⟨by rw [HV.out]; rfl, HB5.out⟩
  · have h1 : (k != 0) = true := by simpa using h0
    have HV : Hid (rndS s t way = (0, k)) := by show _ = _; unfold rndS; rw [if_neg (by rw [HK.out]; exact h0), HK.out]
    clear h0
    go_wp2_with fail
    go_ret2
    exact ⟨by rw [HV.out]; rfl, HB1.out⟩
end Go.Proofs.YtcjdmffflepplaaDoor
