/- The document's Decimal. -/
import Derived.Test.YtcjdmffflepplaaGreatDoorRx
import Derived.Test.YtcjdmffflepplaaGreatDoorRr
set_option linter.unusedSimpArgs false
set_option linter.unusedVariables false
namespace Go.Proofs.YtcjdmffflepplaaGreatDoor
open Go.RowKit Go.Dw Go.Joins
theorem heap_three_set {w : World} {g : Nat} {o0 o1 o2 v0 v1 v2 : Value} {T : TypeId} (h : w.heap[g]? = some (.cells #[o0, o1, o2] T (0, 0))) : (((w.setCell ⟨g, 0, none⟩ v0).setCell ⟨g, 1, none⟩ v1).setCell ⟨g, 2, none⟩ v2).heap[g]? = some (.cells #[v0, v1, v2] T (0, 0)) := by
  simp only [World.setCell, Array.getElem?_modify, h]
  simp
theorem sc_low (p : Nat) : mkRat (sgnZ false (10 ^ p)) 1 = scQ p := by
  have h := sgn_int ((10 ^ p : Nat) : Int)
  rw [decide_eq_false (Int.not_lt.2 (Int.natCast_nonneg _)), Int.natAbs_natCast] at h
  exact h
set_option maxRecDepth 100000 in
set_option maxHeartbeats 4000000 in
theorem RDECIMAL_any (s t : ByteArray) (places : Int) (hs : s.size ≤ maxLen) (ht : t.size ≤ maxLen) (w : World) (ht9 : Hid (TabAt w)) :
    Calls Tryz.prog 10 #[.agg #[.string s, .string t], .int .i64 places] w fun e w' => e = .returned (.tuple #[.string (decS s t places).1, .int .i64 (decS s t places).2]) ∧ Below w.heap.size w w' := by
  obtain ⟨W, gx, hW, hgx, HHW, HBW, HSW⟩ := cell_new w 28 #[.string s, .string t]
  have HGX := Lib.hid hgx
  obtain ⟨x0, x1, _, _⟩ := two_cells HHW.out
  have hgw := blk_lt HHW.out
  obtain ⟨k, hk⟩ : ∃ k, chkQ s t = k := ⟨_, rfl⟩
  have HK := Lib.hid hk
  clear hk
  go_enter Tryz.func10, Tryz.ntmps10
  go_upto_region 1 with (fail)
  rw [← hW, ← hgx]
  clear hW hgx
  go_wp2_with fail
  refine (RCHECKRATIO_any s t hs ht _).mono ?_
  rintro e w0 ⟨rfl, hb0⟩
  rw [HK.out]
  obtain ⟨x0, x1⟩ := two_keep (And.intro x0 x1) hb0 (by dsimp only; omega) (by dsimp only; omega)
  have HB0 := Lib.hid (HBW.out.trans (hb0.mono HBW.out.size))
  have hgw := Nat.lt_of_lt_of_le hgw hb0.size
  clear hb0 HHW HSW
  by_cases h0 : k = 0
  · subst h0
    by_cases hr : places < 0 ∨ 30 < places
    · have HV : Hid (decS s t places = (noB, 1)) := by show _ = _; unfold decS; rw [if_pos HK.out, if_pos hr]
      by_cases hn : places < 0
      · clear hr
        go_wp2_with fail
        go_ret2
        exact ⟨by rw [HV.out]; rfl, HB0.out⟩
      · have hn2 : 30 < places := by omega
        clear hr
        go_wp2_with fail
        go_ret2
        exact ⟨by rw [HV.out]; rfl, HB0.out⟩
    · obtain ⟨p, rfl⟩ : ∃ p : Nat, places = (p : Int) := ⟨places.toNat, by omega⟩
      have hp : p ≤ 30 := by omega
      have hp1 : ¬ (p : Int) < 0 := by omega
      have hp2 : ¬ (30 : Int) < (p : Int) := by omega
      have HR1 := Lib.hid (Rt.of HK.out)
      obtain ⟨q, hq⟩ : ∃ q, valQ s t = q := ⟨_, rfl⟩
      rw [hq] at HR1
      have HV : Hid (decS s t p = (⟨(decT q p).toArray⟩, 0)) := by show _ = _; unfold decS; rw [if_pos HK.out, if_neg hr, hq, Int.toNat_natCast]
      clear hq HK hr
      go_wp2_with fail
      refine (ROF_ok HR1.out _).mono ?_
      rintro e w1 ⟨ng2, A2, n2, c2, D2, m2, d2, rfl, h2, k2, l2, hb1⟩
      have H2 := Lib.hid h2
      have HB1 := Lib.hid (HB0.out.trans (hb1.mono HB0.out.size))
      clear h2 hb1 x0 x1 hgw
      have HLW := Lib.hid (sc_low p)
      go_upto_region 7 with (fail)
      obtain ⟨W4, gq, hW, hgq, HHQ, HBQ, HSQ⟩ := rcell_new w1 55 #[.bool ng2, .slice A2 n2 c2, .slice D2 m2 d2]
      rw [← hW, ← hgq]
      obtain ⟨y0, y1, y2, _, _, _⟩ := three_cells HHQ.out
      have hgqw := blk_lt HHQ.out
      have HB4 := Lib.hid (HB1.out.trans (HBQ.out.mono HB1.out.size))
      have HX4 := Lib.hid (H2.out.to HBQ.out (Nat.le_refl _) HBQ.out.size)
      have HGQ : Hid (w.heap.size ≤ gq) := by show _ ≤ _; rw [hgq]; exact HB1.out.size
      clear hW hgq HSQ HBQ H2
      go_cut [] (fun wx => ∃ (ng : Bool) (A : Option Addr) (n c : Nat) (D : Option Addr) (m d : Nat), n ≤ 10000 ∧ m ≤ 10000 ∧ Hid (wx.heap[gq]? = some (.cells #[.bool ng, .slice A n c, .slice D m d] 55 (0, 0))) ∧ Hid (NumR wx wx.heap.size ng A n c D m d (q * scQ p)) ∧ Hid (Below w.heap.size w wx))
      case first =>
        refine wp_region_text 8 (fun x => x.cell? ⟨gq, 0, none⟩ = some (.bool ng2) ∧ x.cell? ⟨gq, 1, none⟩ = some (.slice A2 n2 c2) ∧ x.cell? ⟨gq, 2, none⟩ = some (.slice D2 m2 d2)) (by kernel_rfl) (by kernel_rfl) ?_
        obtain ⟨wc, hwc⟩ : ∃ x : World, x = W4.drew := ⟨_, rfl⟩
        have HBc : Hid (Below W4.heap.size W4 wc) := by show Below _ _ _; rw [hwc]; exact (Below.refl _ _).drew
        have hS : wc.cell? ⟨gq, 0, none⟩ = some (.bool ng2) ∧ wc.cell? ⟨gq, 1, none⟩ = some (.slice A2 n2 c2) ∧ wc.cell? ⟨gq, 2, none⟩ = some (.slice D2 m2 d2) := by rw [hwc]; exact ⟨y0, y1, y2⟩
        have hgc : gq < wc.heap.size := by rw [hwc]; exact hgqw
        rw [← hwc]
        clear hwc y0 y1 y2
        refine HT.load (i := 0) (oi := _) (v := ?_) rfl (by kernel_rfl) (by kernel_rfl) (by decide) (fun _ _ _ h => h) (by kernel_rfl) (Or.inl ⟨by rfl, ?_⟩) hS ?_
        rotate_left
        · intro wz hwz
          try dsimp only at hwz
          go_simp
          try with_reducible rfl
        simp only [List.getElem_toArray, List.getElem_cons_succ, List.getElem_cons_zero, Act.put, List.setIfInBounds_toArray, List.set_cons_zero, List.set_cons_succ]
        refine HT.take (i := 1) (oi := _) (v := ?_) rfl (by kernel_rfl) (by kernel_rfl) (by decide) (fun _ _ _ h => h) (Or.inl ⟨by rfl, ?_⟩) hS ?_
        rotate_left
        · intro wz
          go_simp
          try with_reducible rfl
        simp only [List.getElem_toArray, List.getElem_cons_succ, List.getElem_cons_zero, Act.put, List.setIfInBounds_toArray, List.set_cons_zero, List.set_cons_succ]
        refine HT.two 2 5 (o := _) (o' := _) rfl rfl (by kernel_rfl) (by decide) (by decide) (by rfl) (by rfl) ?_ ?_
        · intro K hK
          go_simp
          refine (REPEAT_any p (by omega) _).mono ?_
          rintro e wn ⟨⟨z1, rfl, hz1⟩, hbn⟩
          have HZ1 := Lib.hid hz1
          have hz1s : z1.size = p := by rw [← len_data, hz1, List.length_replicate]
          clear hz1
          skip
          have HBn := Lib.hid (HBc.out.trans (hbn.mono HBc.out.size))
          have hSn := three_keep hS hbn hgc hgc hgc
          have hgn := Nat.lt_of_lt_of_le hgc hbn.size
          refine hK.out _ _ hSn ?_
          clear hK K hS HBc hgc
          try simp only [List.getElem_toArray, List.getElem_cons_succ, List.getElem_cons_zero, Act.put, List.setIfInBounds_toArray, List.set_cons_zero, List.set_cons_succ]
          have hS := hSn
          have HBc := HBn
          have hgc := hgn
          clear hSn HBn hgn hbn
          obtain ⟨wc, rfl⟩ : ∃ x : World, x = wn := ⟨_, rfl⟩
          have h49 : (⟨#[49]⟩ : ByteArray).size = 1 := rfl
          obtain ⟨sc, hsc⟩ : ∃ sc : ByteArray, sc = ⟨#[49]⟩ ++ z1 := ⟨_, rfl⟩
          have HSC : Hid (sc.data.toList = 49 :: List.replicate p 48) := by show _ = _; rw [hsc, ← HZ1.out]; simp [ByteArray.data_append]
          have hscs : sc.size = p + 1 := by rw [← len_data, HSC.out]; simp
          refine HT.take (i := 3) (oi := _) (v := .string sc) rfl (by kernel_rfl) (by kernel_rfl) (by decide) (fun _ _ _ h => h) (Or.inl ⟨by rfl, ?_⟩) hS ?_
          · intro wz
            rw [hsc]
            go_simp
            omega
          clear hsc
          try simp only [List.getElem_toArray, List.getElem_cons_succ, List.getElem_cons_zero, Act.put, List.setIfInBounds_toArray, List.set_cons_zero, List.set_cons_succ]
          refine HT.two 4 5 (o := _) (o' := _) rfl rfl (by kernel_rfl) (by decide) (by decide) (by rfl) (by rfl) ?_ ?_
          · intro K hK
            go_simp
            refine (RLIMBS_any sc (by rw [HSC.out]; exact one_all p) (by omega) _).mono ?_
            rintro e wn ⟨A4, n4, c4, rfl, h4, k4, hbn⟩
            rw [HSC.out, decV_one] at h4
            have H4 := Lib.hid h4
            clear h4
            skip
            have HBn := Lib.hid (HBc.out.trans (hbn.mono HBc.out.size))
            have hSn := three_keep hS hbn hgc hgc hgc
            have hgn := Nat.lt_of_lt_of_le hgc hbn.size
            refine hK.out _ _ hSn ?_
            clear hK K hS HBc hgc
            try simp only [List.getElem_toArray, List.getElem_cons_succ, List.getElem_cons_zero, Act.put, List.setIfInBounds_toArray, List.set_cons_zero, List.set_cons_succ]
            have hS := hSn
            have HBc := HBn
            have hgc := hgn
            clear hSn HBn hgn hbn
            obtain ⟨wc, rfl⟩ : ∃ x : World, x = wn := ⟨_, rfl⟩
            refine HT.one (i := 5) (o := _) rfl (by kernel_rfl) (by decide) (by rfl) ?_
            intro K hK
            go_simp
            obtain ⟨wn, ga, hwn, hga, HA0, hbn0, _⟩ := rcell_new wc 3 #[.int .i64 1]
            have hbn := hbn0.out
            have HA : Hid (LimAt wn wn.heap.size (some ⟨ga, 0, none⟩) 1 1 1) := by
              have hb8 : BlkN .i64 3 wn ga [1] := HA0.out
              exact ⟨by omega, by simp [maxLen], [1], ⟨DigN.cons (by omega) (DigN.nil _), by simp⟩, by simp [valB], hb8.row hb8.lt⟩
            rw [← hwn, ← hga]
            clear hwn hga HA0 hbn0
            replace H4 := Lib.hid (H4.out.to hbn (Nat.le_refl _) hbn.size)
            have HBn := Lib.hid (HBc.out.trans (hbn.mono HBc.out.size))
            have hSn := three_keep hS hbn hgc hgc hgc
            have hgn := Nat.lt_of_lt_of_le hgc hbn.size
            refine hK.out _ _ hSn ?_
            clear hK K hS HBc hgc
            try simp only [List.getElem_toArray, List.getElem_cons_succ, List.getElem_cons_zero, Act.put, List.setIfInBounds_toArray, List.set_cons_zero, List.set_cons_succ]
            have hS := hSn
            have HBc := HBn
            have hgc := hgn
            clear hSn HBn hgn hbn
            obtain ⟨wc, rfl⟩ : ∃ x : World, x = wn := ⟨_, rfl⟩
            refine HT.one (i := 6) (o := _) rfl (by kernel_rfl) (by decide) (by rfl) ?_
            intro K hK
            go_simp
            refine (RLOWEST_any false A4 _ n4 c4 _ 1 1 1 (by omega) (by omega) (by omega) _ wc.heap.size (Nat.le_refl _) H4 HA).mono ?_
            rintro e wn ⟨ng5, A5, n5, c5, D5, m5, d5, rfl, h5, k5, l5, hbn⟩
            rw [HLW.out] at h5
            have H5 := Lib.hid h5
            clear h5 H4 HA
            have HBn := Lib.hid (HBc.out.trans (hbn.mono HBc.out.size))
            have hSn := three_keep hS hbn hgc hgc hgc
            have hgn := Nat.lt_of_lt_of_le hgc hbn.size
            refine hK.out _ _ hSn ?_
            clear hK K hS HBc hgc
            try simp only [List.getElem_toArray, List.getElem_cons_succ, List.getElem_cons_zero, Act.put, List.setIfInBounds_toArray, List.set_cons_zero, List.set_cons_succ]
            have hS := hSn
            have HBc := HBn
            have hgc := hgn
            clear hSn HBn hgn hbn
            obtain ⟨wc, rfl⟩ : ∃ x : World, x = wn := ⟨_, rfl⟩
            refine HT.one (i := 7) (o := _) rfl (by kernel_rfl) (by decide) (by rfl) ?_
            intro K hK
            go_simp
            refine (RNTIMES_any ng2 ng5 A2 A5 D2 D5 n2 c2 m2 d2 n5 c5 m5 d5 q (scQ p) (by omega) (by omega) (by omega) (by omega) _ wc.heap.size (Nat.le_refl _) (by exact Lib.hid (HX4.out.to HBc.out (Nat.le_refl _) HBc.out.size)) H5).mono ?_
            rintro e wn ⟨ng6, A6, n6, c6, D6, m6, d6, rfl, h6, k6, l6, hbn⟩
            have H6 := Lib.hid h6
            clear h6 H5
            have HBn := Lib.hid (HBc.out.trans (hbn.mono HBc.out.size))
            have hSn := three_keep hS hbn hgc hgc hgc
            have hgn := Nat.lt_of_lt_of_le hgc hbn.size
            refine hK.out _ _ hSn ?_
            clear hK K hS HBc hgc
            try simp only [List.getElem_toArray, List.getElem_cons_succ, List.getElem_cons_zero, Act.put, List.setIfInBounds_toArray, List.set_cons_zero, List.set_cons_succ]
            have hS := hSn
            have HBc := HBn
            have hgc := hgn
            clear hSn HBn hgn hbn
            obtain ⟨wc, rfl⟩ : ∃ x : World, x = wn := ⟨_, rfl⟩
            have hS3 := hS
            obtain ⟨z0, _⟩ := hS
            have hS := z0
            refine HT.done (by kernel_rfl) ?_
            clear hS
            simp only [List.drop_succ_cons, List.drop_zero]
            have HHG := Lib.hid ((HBc.out.block gq hgqw).trans HHQ.out)
            obtain ⟨hr0, hr1, hr2, hf0, hf1, hf2⟩ := three_cells HHG.out
            go_wp2_with fail
            go_meet
            refine ⟨ng6, A6, n6, c6, D6, m6, d6, by omega, by omega, heap_three_set HHG.out, ?_, set3_below (HB4.out.trans (HBc.out.mono HB4.out.size)) (by have := HGQ.out; omega)⟩
            refine ⟨H6.out.1, NumAt.mono (((H6.out.2.1.set_far (p := ⟨gq, 0, none⟩) ⟨_, _, HHG.out⟩ (by decide) _).set_far (p := ⟨gq, 1, none⟩) (TyAt.set ⟨_, _, HHG.out⟩ _ _) (by decide) _).set_far (p := ⟨gq, 2, none⟩) (TyAt.set (TyAt.set ⟨_, _, HHG.out⟩ _ _) _ _) (by decide) _) (by simp), NumAt.mono (((H6.out.2.2.set_far (p := ⟨gq, 0, none⟩) ⟨_, _, HHG.out⟩ (by decide) _).set_far (p := ⟨gq, 1, none⟩) (TyAt.set ⟨_, _, HHG.out⟩ _ _) (by decide) _).set_far (p := ⟨gq, 2, none⟩) (TyAt.set (TyAt.set ⟨_, _, HHG.out⟩ _ _) _ _) (by decide) _) (by simp)⟩
          · intro K hK
            go_simp
            obtain ⟨wn, ga, hwn, hga, HA0, hbn0, _⟩ := rcell_new wc 3 #[.int .i64 1]
            have hbn := hbn0.out
            have HA : Hid (LimAt wn wn.heap.size (some ⟨ga, 0, none⟩) 1 1 1) := by
              have hb8 : BlkN .i64 3 wn ga [1] := HA0.out
              exact ⟨by omega, by simp [maxLen], [1], ⟨DigN.cons (by omega) (DigN.nil _), by simp⟩, by simp [valB], hb8.row hb8.lt⟩
            rw [← hwn, ← hga]
            clear hwn hga HA0 hbn0
            skip
            have HBn := Lib.hid (HBc.out.trans (hbn.mono HBc.out.size))
            have hSn := three_keep hS hbn hgc hgc hgc
            have hgn := Nat.lt_of_lt_of_le hgc hbn.size
            refine hK.out _ _ hSn ?_
            clear hK K hS HBc hgc
            try simp only [List.getElem_toArray, List.getElem_cons_succ, List.getElem_cons_zero, Act.put, List.setIfInBounds_toArray, List.set_cons_zero, List.set_cons_succ]
            have hS := hSn
            have HBc := HBn
            have hgc := hgn
            clear hSn HBn hgn hbn
            obtain ⟨wc, rfl⟩ : ∃ x : World, x = wn := ⟨_, rfl⟩
            refine HT.one (i := 4) (o := _) rfl (by kernel_rfl) (by decide) (by rfl) ?_
            intro K hK
            go_simp
            refine (RLIMBS_any sc (by rw [HSC.out]; exact one_all p) (by omega) _).mono ?_
            rintro e wn ⟨A4, n4, c4, rfl, h4, k4, hbn⟩
            rw [HSC.out, decV_one] at h4
            have H4 := Lib.hid h4
            clear h4
            replace HA := Lib.hid (HA.out.to hbn (Nat.le_refl _) hbn.size)
            have HBn := Lib.hid (HBc.out.trans (hbn.mono HBc.out.size))
            have hSn := three_keep hS hbn hgc hgc hgc
            have hgn := Nat.lt_of_lt_of_le hgc hbn.size
            refine hK.out _ _ hSn ?_
            clear hK K hS HBc hgc
            try simp only [List.getElem_toArray, List.getElem_cons_succ, List.getElem_cons_zero, Act.put, List.setIfInBounds_toArray, List.set_cons_zero, List.set_cons_succ]
            have hS := hSn
            have HBc := HBn
            have hgc := hgn
            clear hSn HBn hgn hbn
            obtain ⟨wc, rfl⟩ : ∃ x : World, x = wn := ⟨_, rfl⟩
            refine HT.one (i := 6) (o := _) rfl (by kernel_rfl) (by decide) (by rfl) ?_
            intro K hK
            go_simp
            refine (RLOWEST_any false A4 _ n4 c4 _ 1 1 1 (by omega) (by omega) (by omega) _ wc.heap.size (Nat.le_refl _) H4 HA).mono ?_
            rintro e wn ⟨ng5, A5, n5, c5, D5, m5, d5, rfl, h5, k5, l5, hbn⟩
            rw [HLW.out] at h5
            have H5 := Lib.hid h5
            clear h5 H4 HA
            have HBn := Lib.hid (HBc.out.trans (hbn.mono HBc.out.size))
            have hSn := three_keep hS hbn hgc hgc hgc
            have hgn := Nat.lt_of_lt_of_le hgc hbn.size
            refine hK.out _ _ hSn ?_
            clear hK K hS HBc hgc
            try simp only [List.getElem_toArray, List.getElem_cons_succ, List.getElem_cons_zero, Act.put, List.setIfInBounds_toArray, List.set_cons_zero, List.set_cons_succ]
            have hS := hSn
            have HBc := HBn
            have hgc := hgn
            clear hSn HBn hgn hbn
            obtain ⟨wc, rfl⟩ : ∃ x : World, x = wn := ⟨_, rfl⟩
            refine HT.one (i := 7) (o := _) rfl (by kernel_rfl) (by decide) (by rfl) ?_
            intro K hK
            go_simp
            refine (RNTIMES_any ng2 ng5 A2 A5 D2 D5 n2 c2 m2 d2 n5 c5 m5 d5 q (scQ p) (by omega) (by omega) (by omega) (by omega) _ wc.heap.size (Nat.le_refl _) (by exact Lib.hid (HX4.out.to HBc.out (Nat.le_refl _) HBc.out.size)) H5).mono ?_
            rintro e wn ⟨ng6, A6, n6, c6, D6, m6, d6, rfl, h6, k6, l6, hbn⟩
            have H6 := Lib.hid h6
            clear h6 H5
            have HBn := Lib.hid (HBc.out.trans (hbn.mono HBc.out.size))
            have hSn := three_keep hS hbn hgc hgc hgc
            have hgn := Nat.lt_of_lt_of_le hgc hbn.size
            refine hK.out _ _ hSn ?_
            clear hK K hS HBc hgc
            try simp only [List.getElem_toArray, List.getElem_cons_succ, List.getElem_cons_zero, Act.put, List.setIfInBounds_toArray, List.set_cons_zero, List.set_cons_succ]
            have hS := hSn
            have HBc := HBn
            have hgc := hgn
            clear hSn HBn hgn hbn
            obtain ⟨wc, rfl⟩ : ∃ x : World, x = wn := ⟨_, rfl⟩
            have hS3 := hS
            obtain ⟨z0, _⟩ := hS
            have hS := z0
            refine HT.done (by kernel_rfl) ?_
            clear hS
            simp only [List.drop_succ_cons, List.drop_zero]
            have HHG := Lib.hid ((HBc.out.block gq hgqw).trans HHQ.out)
            obtain ⟨hr0, hr1, hr2, hf0, hf1, hf2⟩ := three_cells HHG.out
            go_wp2_with fail
            go_meet
            refine ⟨ng6, A6, n6, c6, D6, m6, d6, by omega, by omega, heap_three_set HHG.out, ?_, set3_below (HB4.out.trans (HBc.out.mono HB4.out.size)) (by have := HGQ.out; omega)⟩
            refine ⟨H6.out.1, NumAt.mono (((H6.out.2.1.set_far (p := ⟨gq, 0, none⟩) ⟨_, _, HHG.out⟩ (by decide) _).set_far (p := ⟨gq, 1, none⟩) (TyAt.set ⟨_, _, HHG.out⟩ _ _) (by decide) _).set_far (p := ⟨gq, 2, none⟩) (TyAt.set (TyAt.set ⟨_, _, HHG.out⟩ _ _) _ _) (by decide) _) (by simp), NumAt.mono (((H6.out.2.2.set_far (p := ⟨gq, 0, none⟩) ⟨_, _, HHG.out⟩ (by decide) _).set_far (p := ⟨gq, 1, none⟩) (TyAt.set ⟨_, _, HHG.out⟩ _ _) (by decide) _).set_far (p := ⟨gq, 2, none⟩) (TyAt.set (TyAt.set ⟨_, _, HHG.out⟩ _ _) _ _) (by decide) _) (by simp)⟩
        · intro K hK
          go_simp
          obtain ⟨wn, ga, hwn, hga, HA0, hbn0, _⟩ := rcell_new wc 3 #[.int .i64 1]
          have hbn := hbn0.out
          have HA : Hid (LimAt wn wn.heap.size (some ⟨ga, 0, none⟩) 1 1 1) := by
            have hb8 : BlkN .i64 3 wn ga [1] := HA0.out
            exact ⟨by omega, by simp [maxLen], [1], ⟨DigN.cons (by omega) (DigN.nil _), by simp⟩, by simp [valB], hb8.row hb8.lt⟩
          rw [← hwn, ← hga]
          clear hwn hga HA0 hbn0
          skip
          have HBn := Lib.hid (HBc.out.trans (hbn.mono HBc.out.size))
          have hSn := three_keep hS hbn hgc hgc hgc
          have hgn := Nat.lt_of_lt_of_le hgc hbn.size
          refine hK.out _ _ hSn ?_
          clear hK K hS HBc hgc
          try simp only [List.getElem_toArray, List.getElem_cons_succ, List.getElem_cons_zero, Act.put, List.setIfInBounds_toArray, List.set_cons_zero, List.set_cons_succ]
          have hS := hSn
          have HBc := HBn
          have hgc := hgn
          clear hSn HBn hgn hbn
          obtain ⟨wc, rfl⟩ : ∃ x : World, x = wn := ⟨_, rfl⟩
          refine HT.one (i := 2) (o := _) rfl (by kernel_rfl) (by decide) (by rfl) ?_
          intro K hK
          go_simp
          refine (REPEAT_any p (by omega) _).mono ?_
          rintro e wn ⟨⟨z1, rfl, hz1⟩, hbn⟩
          have HZ1 := Lib.hid hz1
          have hz1s : z1.size = p := by rw [← len_data, hz1, List.length_replicate]
          clear hz1
          replace HA := Lib.hid (HA.out.to hbn (Nat.le_refl _) hbn.size)
          have HBn := Lib.hid (HBc.out.trans (hbn.mono HBc.out.size))
          have hSn := three_keep hS hbn hgc hgc hgc
          have hgn := Nat.lt_of_lt_of_le hgc hbn.size
          refine hK.out _ _ hSn ?_
          clear hK K hS HBc hgc
          try simp only [List.getElem_toArray, List.getElem_cons_succ, List.getElem_cons_zero, Act.put, List.setIfInBounds_toArray, List.set_cons_zero, List.set_cons_succ]
          have hS := hSn
          have HBc := HBn
          have hgc := hgn
          clear hSn HBn hgn hbn
          obtain ⟨wc, rfl⟩ : ∃ x : World, x = wn := ⟨_, rfl⟩
          have h49 : (⟨#[49]⟩ : ByteArray).size = 1 := rfl
          obtain ⟨sc, hsc⟩ : ∃ sc : ByteArray, sc = ⟨#[49]⟩ ++ z1 := ⟨_, rfl⟩
          have HSC : Hid (sc.data.toList = 49 :: List.replicate p 48) := by show _ = _; rw [hsc, ← HZ1.out]; simp [ByteArray.data_append]
          have hscs : sc.size = p + 1 := by rw [← len_data, HSC.out]; simp
          refine HT.take (i := 3) (oi := _) (v := .string sc) rfl (by kernel_rfl) (by kernel_rfl) (by decide) (fun _ _ _ h => h) (Or.inl ⟨by rfl, ?_⟩) hS ?_
          · intro wz
            rw [hsc]
            go_simp
            omega
          clear hsc
          try simp only [List.getElem_toArray, List.getElem_cons_succ, List.getElem_cons_zero, Act.put, List.setIfInBounds_toArray, List.set_cons_zero, List.set_cons_succ]
          refine HT.one (i := 4) (o := _) rfl (by kernel_rfl) (by decide) (by rfl) ?_
          intro K hK
          go_simp
          refine (RLIMBS_any sc (by rw [HSC.out]; exact one_all p) (by omega) _).mono ?_
          rintro e wn ⟨A4, n4, c4, rfl, h4, k4, hbn⟩
          rw [HSC.out, decV_one] at h4
          have H4 := Lib.hid h4
          clear h4
          replace HA := Lib.hid (HA.out.to hbn (Nat.le_refl _) hbn.size)
          have HBn := Lib.hid (HBc.out.trans (hbn.mono HBc.out.size))
          have hSn := three_keep hS hbn hgc hgc hgc
          have hgn := Nat.lt_of_lt_of_le hgc hbn.size
          refine hK.out _ _ hSn ?_
          clear hK K hS HBc hgc
          try simp only [List.getElem_toArray, List.getElem_cons_succ, List.getElem_cons_zero, Act.put, List.setIfInBounds_toArray, List.set_cons_zero, List.set_cons_succ]
          have hS := hSn
          have HBc := HBn
          have hgc := hgn
          clear hSn HBn hgn hbn
          obtain ⟨wc, rfl⟩ : ∃ x : World, x = wn := ⟨_, rfl⟩
          refine HT.one (i := 6) (o := _) rfl (by kernel_rfl) (by decide) (by rfl) ?_
          intro K hK
          go_simp
          refine (RLOWEST_any false A4 _ n4 c4 _ 1 1 1 (by omega) (by omega) (by omega) _ wc.heap.size (Nat.le_refl _) H4 HA).mono ?_
          rintro e wn ⟨ng5, A5, n5, c5, D5, m5, d5, rfl, h5, k5, l5, hbn⟩
          rw [HLW.out] at h5
          have H5 := Lib.hid h5
          clear h5 H4 HA
          have HBn := Lib.hid (HBc.out.trans (hbn.mono HBc.out.size))
          have hSn := three_keep hS hbn hgc hgc hgc
          have hgn := Nat.lt_of_lt_of_le hgc hbn.size
          refine hK.out _ _ hSn ?_
          clear hK K hS HBc hgc
          try simp only [List.getElem_toArray, List.getElem_cons_succ, List.getElem_cons_zero, Act.put, List.setIfInBounds_toArray, List.set_cons_zero, List.set_cons_succ]
          have hS := hSn
          have HBc := HBn
          have hgc := hgn
          clear hSn HBn hgn hbn
          obtain ⟨wc, rfl⟩ : ∃ x : World, x = wn := ⟨_, rfl⟩
          refine HT.one (i := 7) (o := _) rfl (by kernel_rfl) (by decide) (by rfl) ?_
          intro K hK
          go_simp
          refine (RNTIMES_any ng2 ng5 A2 A5 D2 D5 n2 c2 m2 d2 n5 c5 m5 d5 q (scQ p) (by omega) (by omega) (by omega) (by omega) _ wc.heap.size (Nat.le_refl _) (by exact Lib.hid (HX4.out.to HBc.out (Nat.le_refl _) HBc.out.size)) H5).mono ?_
          rintro e wn ⟨ng6, A6, n6, c6, D6, m6, d6, rfl, h6, k6, l6, hbn⟩
          have H6 := Lib.hid h6
          clear h6 H5
          have HBn := Lib.hid (HBc.out.trans (hbn.mono HBc.out.size))
          have hSn := three_keep hS hbn hgc hgc hgc
          have hgn := Nat.lt_of_lt_of_le hgc hbn.size
          refine hK.out _ _ hSn ?_
          clear hK K hS HBc hgc
          try simp only [List.getElem_toArray, List.getElem_cons_succ, List.getElem_cons_zero, Act.put, List.setIfInBounds_toArray, List.set_cons_zero, List.set_cons_succ]
          have hS := hSn
          have HBc := HBn
          have hgc := hgn
          clear hSn HBn hgn hbn
          obtain ⟨wc, rfl⟩ : ∃ x : World, x = wn := ⟨_, rfl⟩
          have hS3 := hS
          obtain ⟨z0, _⟩ := hS
          have hS := z0
          refine HT.done (by kernel_rfl) ?_
          clear hS
          simp only [List.drop_succ_cons, List.drop_zero]
          have HHG := Lib.hid ((HBc.out.block gq hgqw).trans HHQ.out)
          obtain ⟨hr0, hr1, hr2, hf0, hf1, hf2⟩ := three_cells HHG.out
          go_wp2_with fail
          go_meet
          refine ⟨ng6, A6, n6, c6, D6, m6, d6, by omega, by omega, heap_three_set HHG.out, ?_, set3_below (HB4.out.trans (HBc.out.mono HB4.out.size)) (by have := HGQ.out; omega)⟩
          refine ⟨H6.out.1, NumAt.mono (((H6.out.2.1.set_far (p := ⟨gq, 0, none⟩) ⟨_, _, HHG.out⟩ (by decide) _).set_far (p := ⟨gq, 1, none⟩) (TyAt.set ⟨_, _, HHG.out⟩ _ _) (by decide) _).set_far (p := ⟨gq, 2, none⟩) (TyAt.set (TyAt.set ⟨_, _, HHG.out⟩ _ _) _ _) (by decide) _) (by simp), NumAt.mono (((H6.out.2.2.set_far (p := ⟨gq, 0, none⟩) ⟨_, _, HHG.out⟩ (by decide) _).set_far (p := ⟨gq, 1, none⟩) (TyAt.set ⟨_, _, HHG.out⟩ _ _) (by decide) _).set_far (p := ⟨gq, 2, none⟩) (TyAt.set (TyAt.set ⟨_, _, HHG.out⟩ _ _) _ _) (by decide) _) (by simp)⟩
      case rest =>
        clear y0 y1 y2 HX4 HB4 HHQ hgqw
        obtain ⟨ng, A6, n6, c6, D6, m6, d6, k6, l6, HGA, HX, HBX⟩ := hcut
        obtain ⟨y0, y1, y2, _, _, _⟩ := three_cells HGA.out
        have hgq := blk_lt HGA.out
        obtain ⟨x, hx⟩ : ∃ x, q * scQ p = x := ⟨_, rfl⟩
        have HDT : Hid (decT q p = (if nearQ x < 0 then [45] else []) ++ padT (Lib.decDigits (nearQ x).natAbs) p) := by show _ = _; unfold decT; rw [hx]
        rw [hx] at HX
        have HNG := Lib.hid HX.out.1
        have HAR : Hid ((nearQ x).natAbs = absR x 2) := abs_round x 2 rfl
        have HSGN : Hid (nearQ x = sgnZ (decide (x.num < 0)) (nearQ x).natAbs) := round_sign x 2 rfl
        go_wp2_with fail
        refine (RROUNDU_any ng A6 D6 n6 c6 m6 d6 x 2 rfl (by omega) (by omega) _ _ (Nat.le_refl _) HX).mono ?_
        rintro e w6 ⟨A7, n7, c7, rfl, h7, k7, hb7⟩
        rw [← HAR.out] at h7
        obtain ⟨z, hz⟩ : ∃ z, nearQ x = z := ⟨_, rfl⟩
        rw [hz] at h7 HSGN HDT
        have H7 := Lib.hid h7
        have HPOS := Lib.hid (h7.pos_iff (by omega))
        have hlt := h7.lt_pow
        obtain ⟨y0, y1, y2⟩ := three_keep (And.intro y0 (And.intro y1 y2)) hb7 (by dsimp only; omega) (by dsimp only; omega) (by dsimp only; omega)
        have HB7 := Lib.hid (HBX.out.trans (hb7.mono HBX.out.size))
        have hgq := Nat.lt_of_lt_of_le hgq hb7.size
        obtain ⟨v, hv⟩ : ∃ v : ByteArray, v = ⟨(Lib.decDigits z.natAbs).toArray⟩ := ⟨_, rfl⟩
        have HVD : Hid (v.data.toList = Lib.decDigits z.natAbs) := by show _ = _; rw [hv]
        have hvs : v.size ≤ 1000001 := by
          have h2 : (10000 : Nat) ^ n7 ≤ 10 ^ (4 * n7 + 1) := by
            rw [show (10000 : Nat) = 10 ^ 4 from rfl, ← Nat.pow_mul]
            exact Nat.pow_le_pow_right (by omega) (by omega)
          have h3 := dec_len (4 * n7 + 1) z.natAbs (Nat.succ_pos _) (Nat.lt_of_lt_of_le hlt h2)
          rw [← len_data, HVD.out]
          omega
        obtain ⟨b, hb⟩ : ∃ b, decide (z < 0) = b := ⟨_, rfl⟩
        have HSG : Hid (b = decide (z < 0)) := hb.symm
        have HNN : Hid (b = (ng && decide (0 < n7))) := by
          show _ = _
          rw [← hb, HNG.out]
          have e1 := HSGN.out
          have e2 := HPOS.out
          by_cases hx0 : x.num < 0
          · rw [decide_eq_true hx0] at e1 ⊢
            rw [Bool.true_and]
            refine decide_eq_decide.2 ?_
            rw [e2]
            unfold sgnZ at e1
            rw [if_pos rfl] at e1
            omega
          · rw [decide_eq_false hx0] at e1 ⊢
            rw [Bool.false_and]
            unfold sgnZ at e1
            rw [if_neg (by simp)] at e1
            exact decide_eq_false (by omega)
        clear hb7 h7 hz hlt hb HX HBX HGA HAR HSGN hx
        go_wp2_with fail
        refine (RDIGITS_any A7 n7 c7 _ (by omega) _ w6.heap.size (Nat.le_refl _) (Lib.hid (ht9.out.below HB7.out)) H7).mono ?_
        rintro e w7 ⟨rfl, hb8⟩
        obtain ⟨y0, y1, y2⟩ := three_keep (And.intro y0 (And.intro y1 y2)) hb8 (by dsimp only; omega) (by dsimp only; omega) (by dsimp only; omega)
        have HB6 := Lib.hid (HB7.out.trans (hb8.mono HB7.out.size))
        have hgq := Nat.lt_of_lt_of_le hgq hb8.size
        rw [← hv]
        clear hb8 hv H7 HB7
        have HPZ : Hid ((padZ (Lib.decDigits z.natAbs) p).length = max v.size (p + 1)) := pad_size HVD.out p hp (by omega)
        obtain ⟨vp, hvp⟩ : ∃ vp : ByteArray, vp = ⟨(padZ (Lib.decDigits z.natAbs) p).toArray⟩ := ⟨_, rfl⟩
        have HVP : Hid (vp.data.toList = padZ (Lib.decDigits z.natAbs) p) := by show _ = _; rw [hvp]
        have HVPE := Lib.hid hvp
        have hvpl : vp.size = max v.size (p + 1) := by rw [← len_data, HVP.out]; exact HPZ.out
        clear hvp
        by_cases hle : v.size ≤ p
        · obtain ⟨c, hc⟩ : ∃ c, p + 1 - v.size = c := ⟨_, rfl⟩
          have hci : (p : Int) + 1 - (v.size : Int) = (c : Int) := by omega
          have hle9 : (v.size : Int) ≤ (p : Int) := by omega
          have HCC : Hid (c = p + 1 - (Lib.decDigits z.natAbs).length) := by show _ = _; rw [← hc, ← HVD.out, len_data]
          clear hc
          go_wp2_with fail
          refine (REPEAT_any c (by omega) _).mono ?_
          rintro e w8 ⟨⟨zz, rfl, hzz⟩, hb8⟩
          have HB8 := Lib.hid (HB6.out.trans (hb8.mono HB6.out.size))
          obtain ⟨y0, y1, y2⟩ := three_keep (And.intro y0 (And.intro y1 y2)) hb8 (by dsimp only; omega) (by dsimp only; omega) (by dsimp only; omega)
          have HE : Hid (zz ++ v = vp) := by
            show _ = _
            refine (ba_ext (l := padZ (Lib.decDigits z.natAbs) p) ?_).trans HVPE.out.symm
            unfold padZ
            rw [← HCC.out, ← hzz, ← HVD.out]
            simp [ByteArray.data_append]
          have hzs : zz.size = c := by rw [← len_data, hzz, List.length_replicate]
          clear hb8 hzz
          go_upto_region 12 with (fail)
          rw [HE.out]
          have hvp1 : p < vp.size := by omega
          have hvp2 : vp.size ≤ 1000050 := by omega
          by_cases hp0 : 0 < p
          · obtain ⟨d, hd⟩ : ∃ d, vp.size - p = d := ⟨_, rfl⟩
            have hdi : (vp.size : Int) - (p : Int) = (d : Int) := by omega
            have hp9 : (0 : Int) < (p : Int) := by omega
            have hd1 : d ≤ vp.size := by omega
            obtain ⟨va, hva⟩ : ∃ v : ByteArray, v = vp.extract 0 d := ⟨_, rfl⟩
            obtain ⟨vb, hvb⟩ : ∃ v : ByteArray, v = vp.extract d vp.size := ⟨_, rfl⟩
            have HVA : Hid (va.data.toList = vp.data.toList.take d) := by show _ = _; rw [hva]; exact ext_pre vp d
            have HVB : Hid (vb.data.toList = vp.data.toList.drop d) := by show _ = _; rw [hvb]; exact Lib.extract_to_end vp d
            have hvas : va.size = d := by rw [← len_data, HVA.out, List.length_take, len_data]; omega
            have hvbs : vb.size = vp.size - d := by rw [← len_data, HVB.out, List.length_drop, len_data]
            have h46 : (⟨#[46]⟩ : ByteArray).size = 1 := rfl
            have HR : Hid (((va ++ ⟨#[46]⟩) ++ vb).data.toList = padT (Lib.decDigits z.natAbs) p) := by
              show _ = _
              unfold padT
              rw [if_pos hp0, ← HVP.out, len_data, hd, ← HVA.out, ← HVB.out]
              simp [ByteArray.data_append]
            clear hd hvpl hp0
            go_upto_region 13 with (fail)
            go_quiet (fail)
            rw [← hva, ← hvb]
            clear hva hvb
            cases ng with
            | false =>
              have HN : Hid ((if z < 0 then [45] else []) = ([] : List UInt8)) := if_neg (of_decide_eq_false (by rw [← HSG.out, HNN.out]; rfl))
              have HFIN : Hid ((⟨(decT q p).toArray⟩ : ByteArray) = ((va ++ ⟨#[46]⟩) ++ vb)) := by
                show _ = _
                refine (ba_ext ?_).symm
                rw [HDT.out, HN.out, List.nil_append, HR.out]
              go_wp2_with fail
              go_ret2
              exact ⟨by rw [HV.out]; dsimp only; rw [HFIN.out]; rfl, by first | exact HB8.out | exact belowN HB8.out _⟩
            | true =>
              by_cases hn7 : 0 < n7
              · have hn9 : (0 : Int) < (n7 : Int) := by omega
                have HN : Hid ((if z < 0 then [45] else []) = ([45] : List UInt8)) := if_pos (of_decide_eq_true (by rw [← HSG.out, HNN.out, decide_eq_true hn7]; rfl))
                have HFIN : Hid ((⟨(decT q p).toArray⟩ : ByteArray) = ⟨#[45]⟩ ++ ((va ++ ⟨#[46]⟩) ++ vb)) := by
                  show _ = _
                  refine (ba_ext ?_).symm
                  rw [HDT.out, HN.out, ← HR.out]
                  simp [ByteArray.data_append]
                have h45 : (⟨#[45]⟩ : ByteArray).size = 1 := rfl
                go_wp2_with fail
                go_ret2
                exact ⟨by rw [HV.out]; dsimp only; rw [HFIN.out]; rfl, by first | exact HB8.out | exact belowN HB8.out _⟩
              · have hn9 : ¬ (0 : Int) < (n7 : Int) := by omega
                have HN : Hid ((if z < 0 then [45] else []) = ([] : List UInt8)) := if_neg (of_decide_eq_false (by rw [← HSG.out, HNN.out, decide_eq_false hn7]; rfl))
                have HFIN : Hid ((⟨(decT q p).toArray⟩ : ByteArray) = ((va ++ ⟨#[46]⟩) ++ vb)) := by
                  show _ = _
                  refine (ba_ext ?_).symm
                  rw [HDT.out, HN.out, List.nil_append, HR.out]
                go_wp2_with fail
                go_ret2
                exact ⟨by rw [HV.out]; dsimp only; rw [HFIN.out]; rfl, by first | exact HB8.out | exact belowN HB8.out _⟩
          · have HR : Hid (vp.data.toList = padT (Lib.decDigits z.natAbs) p) := by show _ = _; unfold padT; rw [if_neg hp0]; exact HVP.out
            have hp9 : ¬ (0 : Int) < (p : Int) := by omega
            clear hp0 hvpl
            cases ng with
            | false =>
              have HN : Hid ((if z < 0 then [45] else []) = ([] : List UInt8)) := if_neg (of_decide_eq_false (by rw [← HSG.out, HNN.out]; rfl))
              have HFIN : Hid ((⟨(decT q p).toArray⟩ : ByteArray) = vp) := by
                show _ = _
                refine (ba_ext ?_).symm
                rw [HDT.out, HN.out, List.nil_append, HR.out]
              go_wp2_with fail
              go_ret2
              exact ⟨by rw [HV.out]; dsimp only; rw [HFIN.out]; rfl, by first | exact HB8.out | exact belowN HB8.out _⟩
            | true =>
              by_cases hn7 : 0 < n7
              · have hn9 : (0 : Int) < (n7 : Int) := by omega
                have HN : Hid ((if z < 0 then [45] else []) = ([45] : List UInt8)) := if_pos (of_decide_eq_true (by rw [← HSG.out, HNN.out, decide_eq_true hn7]; rfl))
                have HFIN : Hid ((⟨(decT q p).toArray⟩ : ByteArray) = ⟨#[45]⟩ ++ vp) := by
                  show _ = _
                  refine (ba_ext ?_).symm
                  rw [HDT.out, HN.out, ← HR.out]
                  simp [ByteArray.data_append]
                have h45 : (⟨#[45]⟩ : ByteArray).size = 1 := rfl
                go_wp2_with fail
                go_ret2
                exact ⟨by rw [HV.out]; dsimp only; rw [HFIN.out]; rfl, by first | exact HB8.out | exact belowN HB8.out _⟩
              · have hn9 : ¬ (0 : Int) < (n7 : Int) := by omega
                have HN : Hid ((if z < 0 then [45] else []) = ([] : List UInt8)) := if_neg (of_decide_eq_false (by rw [← HSG.out, HNN.out, decide_eq_false hn7]; rfl))
                have HFIN : Hid ((⟨(decT q p).toArray⟩ : ByteArray) = vp) := by
                  show _ = _
                  refine (ba_ext ?_).symm
                  rw [HDT.out, HN.out, List.nil_append, HR.out]
                go_wp2_with fail
                go_ret2
                exact ⟨by rw [HV.out]; dsimp only; rw [HFIN.out]; rfl, by first | exact HB8.out | exact belowN HB8.out _⟩
        · have hle9 : ¬ (v.size : Int) ≤ (p : Int) := by omega
          have HE : Hid (v = vp) := by
            show _ = _
            refine (ba_ext (l := padZ (Lib.decDigits z.natAbs) p) ?_).trans HVPE.out.symm
            unfold padZ
            rw [show p + 1 - (Lib.decDigits z.natAbs).length = 0 by rw [← HVD.out, len_data]; omega, HVD.out]
            rfl
          have HB8 := HB6
          go_upto_region 12 with (fail)
          rw [HE.out]
          have hvp1 : p < vp.size := by omega
          have hvp2 : vp.size ≤ 1000050 := by omega
          by_cases hp0 : 0 < p
          · obtain ⟨d, hd⟩ : ∃ d, vp.size - p = d := ⟨_, rfl⟩
            have hdi : (vp.size : Int) - (p : Int) = (d : Int) := by omega
            have hp9 : (0 : Int) < (p : Int) := by omega
            have hd1 : d ≤ vp.size := by omega
            obtain ⟨va, hva⟩ : ∃ v : ByteArray, v = vp.extract 0 d := ⟨_, rfl⟩
            obtain ⟨vb, hvb⟩ : ∃ v : ByteArray, v = vp.extract d vp.size := ⟨_, rfl⟩
            have HVA : Hid (va.data.toList = vp.data.toList.take d) := by show _ = _; rw [hva]; exact ext_pre vp d
            have HVB : Hid (vb.data.toList = vp.data.toList.drop d) := by show _ = _; rw [hvb]; exact Lib.extract_to_end vp d
            have hvas : va.size = d := by rw [← len_data, HVA.out, List.length_take, len_data]; omega
            have hvbs : vb.size = vp.size - d := by rw [← len_data, HVB.out, List.length_drop, len_data]
            have h46 : (⟨#[46]⟩ : ByteArray).size = 1 := rfl
            have HR : Hid (((va ++ ⟨#[46]⟩) ++ vb).data.toList = padT (Lib.decDigits z.natAbs) p) := by
              show _ = _
              unfold padT
              rw [if_pos hp0, ← HVP.out, len_data, hd, ← HVA.out, ← HVB.out]
              simp [ByteArray.data_append]
            clear hd hvpl hp0
            go_upto_region 13 with (fail)
            go_quiet (fail)
            rw [← hva, ← hvb]
            clear hva hvb
            cases ng with
            | false =>
              have HN : Hid ((if z < 0 then [45] else []) = ([] : List UInt8)) := if_neg (of_decide_eq_false (by rw [← HSG.out, HNN.out]; rfl))
              have HFIN : Hid ((⟨(decT q p).toArray⟩ : ByteArray) = ((va ++ ⟨#[46]⟩) ++ vb)) := by
                show _ = _
                refine (ba_ext ?_).symm
                rw [HDT.out, HN.out, List.nil_append, HR.out]
              go_wp2_with fail
              go_ret2
              exact ⟨by rw [HV.out]; dsimp only; rw [HFIN.out]; rfl, by first | exact HB8.out | exact belowN HB8.out _⟩
            | true =>
              by_cases hn7 : 0 < n7
              · have hn9 : (0 : Int) < (n7 : Int) := by omega
                have HN : Hid ((if z < 0 then [45] else []) = ([45] : List UInt8)) := if_pos (of_decide_eq_true (by rw [← HSG.out, HNN.out, decide_eq_true hn7]; rfl))
                have HFIN : Hid ((⟨(decT q p).toArray⟩ : ByteArray) = ⟨#[45]⟩ ++ ((va ++ ⟨#[46]⟩) ++ vb)) := by
                  show _ = _
                  refine (ba_ext ?_).symm
                  rw [HDT.out, HN.out, ← HR.out]
                  simp [ByteArray.data_append]
                have h45 : (⟨#[45]⟩ : ByteArray).size = 1 := rfl
                go_wp2_with fail
                go_ret2
                exact ⟨by rw [HV.out]; dsimp only; rw [HFIN.out]; rfl, by first | exact HB8.out | exact belowN HB8.out _⟩
              · have hn9 : ¬ (0 : Int) < (n7 : Int) := by omega
                have HN : Hid ((if z < 0 then [45] else []) = ([] : List UInt8)) := if_neg (of_decide_eq_false (by rw [← HSG.out, HNN.out, decide_eq_false hn7]; rfl))
                have HFIN : Hid ((⟨(decT q p).toArray⟩ : ByteArray) = ((va ++ ⟨#[46]⟩) ++ vb)) := by
                  show _ = _
                  refine (ba_ext ?_).symm
                  rw [HDT.out, HN.out, List.nil_append, HR.out]
                go_wp2_with fail
                go_ret2
                exact ⟨by rw [HV.out]; dsimp only; rw [HFIN.out]; rfl, by first | exact HB8.out | exact belowN HB8.out _⟩
          · have HR : Hid (vp.data.toList = padT (Lib.decDigits z.natAbs) p) := by show _ = _; unfold padT; rw [if_neg hp0]; exact HVP.out
            have hp9 : ¬ (0 : Int) < (p : Int) := by omega
            clear hp0 hvpl
            cases ng with
            | false =>
              have HN : Hid ((if z < 0 then [45] else []) = ([] : List UInt8)) := if_neg (of_decide_eq_false (by rw [← HSG.out, HNN.out]; rfl))
              have HFIN : Hid ((⟨(decT q p).toArray⟩ : ByteArray) = vp) := by
                show _ = _
                refine (ba_ext ?_).symm
                rw [HDT.out, HN.out, List.nil_append, HR.out]
              go_wp2_with fail
              go_ret2
              exact ⟨by rw [HV.out]; dsimp only; rw [HFIN.out]; rfl, by first | exact HB8.out | exact belowN HB8.out _⟩
            | true =>
              by_cases hn7 : 0 < n7
              · have hn9 : (0 : Int) < (n7 : Int) := by omega
                have HN : Hid ((if z < 0 then [45] else []) = ([45] : List UInt8)) := if_pos (of_decide_eq_true (by rw [← HSG.out, HNN.out, decide_eq_true hn7]; rfl))
                have HFIN : Hid ((⟨(decT q p).toArray⟩ : ByteArray) = ⟨#[45]⟩ ++ vp) := by
                  show _ = _
                  refine (ba_ext ?_).symm
                  rw [HDT.out, HN.out, ← HR.out]
                  simp [ByteArray.data_append]
                have h45 : (⟨#[45]⟩ : ByteArray).size = 1 := rfl
                go_wp2_with fail
                go_ret2
                exact ⟨by rw [HV.out]; dsimp only; rw [HFIN.out]; rfl, by first | exact HB8.out | exact belowN HB8.out _⟩
              · have hn9 : ¬ (0 : Int) < (n7 : Int) := by omega
                have HN : Hid ((if z < 0 then [45] else []) = ([] : List UInt8)) := if_neg (of_decide_eq_false (by rw [← HSG.out, HNN.out, decide_eq_false hn7]; rfl))
                have HFIN : Hid ((⟨(decT q p).toArray⟩ : ByteArray) = vp) := by
                  show _ = _
                  refine (ba_ext ?_).symm
                  rw [HDT.out, HN.out, List.nil_append, HR.out]
                go_wp2_with fail
                go_ret2
                exact ⟨by rw [HV.out]; dsimp only; rw [HFIN.out]; rfl, by first | exact HB8.out | exact belowN HB8.out _⟩
  · have h1 : (k != 0) = true := by simpa using h0
    have HV : Hid (decS s t places = (noB, k)) := by show _ = _; unfold decS; rw [if_neg (by rw [HK.out]; exact h0), HK.out]
    clear h0
    go_wp2_with fail
    go_ret2
    exact ⟨by rw [HV.out]; rfl, HB0.out⟩
end Go.Proofs.YtcjdmffflepplaaGreatDoor
